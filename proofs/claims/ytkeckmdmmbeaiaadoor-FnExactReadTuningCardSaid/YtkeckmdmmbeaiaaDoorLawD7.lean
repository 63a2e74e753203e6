/- What a law on texts asks of its row: the tables of the library that lie in the world; one world that fits. Conditions: as each says. -/
import Derived.Test.YtkeckmdmmbeaiaaDoorLawJ
import Derived.Test.YtkeckmdmmbeaiaaDoorTie
import Derived.Test.YtkeckmdmmbeaiaaDoorCards
import Derived.SevenTiedAt
import Derived.Lib.LaidTab
import Derived.LaidLaws
import Derived.Shelf.Vars
set_option linter.unusedSimpArgs false
set_option linter.unusedVariables false
namespace Go.Proofs.YtkeckmdmmbeaiaaDoor
open Go.ChangeShapes Go.WideShapes Go.ChangeAt Go.RowKit Go.Deep Sx
set_option maxRecDepth 100000
theorem maxlen_of_shape {W : World} (h : W.ShapedOpen Tryd.prog) : ∃ m, W.cell? ⟨0, 0, none⟩ = some (.int .i64 m) :=
  cell_of_shapedOpen_int (P := Tryd.prog) (g := 0) (t := 3) (zero := #[.int .i64 0]) h (of_decide_eq_true (by kernel_rfl)) (by kernel_rfl) rfl (by kernel_rfl) (by kernel_rfl) Tryd.underlying3
theorem pow_of_tab {W : World} {name : String} (hg : Tryd.prog.globalNamed name = some 1) (h : Go.Lib.TabIs Tryd.prog W name .u64 Go.Lib.pow10Tab) : ∃ e f, W.heap[(1 : Nat)]? = some (.cells (Go.Lib.pow10Tab.map fun z => Value.int .u64 z).toArray e f) := by
  unfold Go.Lib.TabIs World.var? at h
  rw [hg] at h
  simp only [Option.bind_some] at h
  split at h
  · rename_i cs e f hh
    exact ⟨e, f, by rw [hh, Option.some.inj h]⟩
  · simp at h
def litV : DataW Unit → Value
  | .lit (.int k z) => Value.int k z
  | _ => Go.undef
def dataCells : DataW Unit → Array Value
  | .agg xs => (xs.flatMap fun
    | .agg ys => ys.map litV
    | y => [litV y]).toArray
  | _ => #[]
def laidObj (cs : Array Value) : Obj → Obj
  | .cells _ t fr => .cells cs t fr
  | o => o
/-- The settled world, its tables and its two errors laid. -/
noncomputable def low : Nat := (World.holding Tryd.prog default ⟨#[], #[], []⟩).heap.size
noncomputable def laidW (os : Os) : World :=
  let w0 := World.holding Tryd.prog os ⟨#[.cells #[.string ⟨#[118, 97, 108, 117, 101, 32, 111, 117, 116, 32, 111, 102, 32, 114, 97, 110, 103, 101]⟩] 240, .cells #[.string ⟨#[105, 110, 118, 97, 108, 105, 100, 32, 115, 121, 110, 116, 97, 120]⟩] 240], #[], []⟩
  { w0 with heap := (((((((w0.heap.modify 6 (laidObj (dataCells Rows.laid_math_bits_deBruijn32tab))).modify 7 (laidObj (dataCells Rows.laid_math_bits_deBruijn64tab))).modify 1 (laidObj (dataCells Rows.laid_internal_strconv_uint64pow10))).modify 3 (laidObj (dataCells Rows.laid_unicode_utf8_acceptRanges))).modify 2 (laidObj (dataCells Rows.laid_unicode_utf8_first))).modify 5 (laidObj #[.iface 238 (.pointer (some ⟨low, 0, none⟩))])).modify 4 (laidObj #[.iface 238 (.pointer (some ⟨low + 1, 0, none⟩))])) }
def laidT : List (String × DataW Unit) := Rows.fnExactReadPitchRow.laid
theorem laidW_met (os : Os) (args : Array Value) : laidMet Tryd.prog laidT ((laidW os).forCall (fun _ _ => 0) ⟨#[], args, []⟩).memory :=
  laidMet_of_run' 8 (by kernel_rfl) (by kernel_rfl)
theorem pow10_data : (Rows.laid_internal_strconv_uint64pow10 : DataW Unit) = Go.Lib.tabData .u64 Go.Lib.pow10Tab := by kernel_rfl
theorem laid_inv {W : World} (h : laidMet Tryd.prog laidT W) (hsh : W.ShapedOpen Tryd.prog) : Inv W ∧ GN ≤ W.heap.size := by
  have hml := maxlen_of_shape hsh
  obtain ⟨ps, ⟨g1, t1, c1, f1, p1, q1, hg1, ht1, hv1, hd1, ⟨g2, t2, c2, f2, p2, q2, hg2, ht2, hv2, hd2, ⟨g3, t3, c3, f3, p3, q3, hg3, ht3, hv3, hd3, ⟨g4, t4, c4, f4, p4, q4, hg4, ht4, hv4, hd4, ⟨g5, t5, c5, f5, p5, q5, hg5, ht5, hv5, hd5, ⟨g6, t6, c6, f6, p6, q6, hg6, ht6, hv6, hd6, _, _⟩, _⟩, _⟩, _⟩, _⟩, _⟩, _⟩ := h
  have k2 : Tryd.prog.globalNamed (laidT.getD 1 ("x", .lit (.bool true))).1 = some 7 := by kernel_rfl
  have e2 : some g2 = some 7 := hg2.symm.trans k2
  have k3 : Tryd.prog.globalNamed (laidT.getD 2 ("x", .lit (.bool true))).1 = some 1 := by kernel_rfl
  have e3 : g3 = 1 := Option.some.inj (hg3.symm.trans k3)
  subst e3
  have k5 : Tryd.prog.globalNamed (laidT.getD 4 ("x", .lit (.bool true))).1 = some 5 := by kernel_rfl
  have e5 : g5 = 5 := Option.some.inj (hg5.symm.trans k5)
  subst e5
  have k6 : Tryd.prog.globalNamed (laidT.getD 5 ("x", .lit (.bool true))).1 = some 4 := by kernel_rfl
  have e6 : g6 = 4 := Option.some.inj (hg6.symm.trans k6)
  subst e6
  have kt5 : (Tryd.prog.globals[5]?).map (·.type) = some 156 := by kernel_rfl
  have kt6 : (Tryd.prog.globals[4]?).map (·.type) = some 156 := by kernel_rfl
  have et5 := Option.some.inj (ht5.symm.trans kt5)
  have et6 := Option.some.inj (ht6.symm.trans kt6)
  subst et5
  subst et6
  obtain ⟨l5⟩ := c5
  obtain ⟨l6⟩ := c6
  obtain ⟨_, u5, v5, hl5, _, _⟩ := iface_of_trod Tryd.underlying156 hd5
  obtain ⟨_, u6, v6, hl6, _, _⟩ := iface_of_trod Tryd.underlying156 hd6
  have hl5 : l5 = _ := hl5
  have hl6 : l6 = _ := hl6
  subst hl5
  subst hl6
  have kt : (Tryd.prog.globals[1]?).map (·.type) = some 222 := by kernel_rfl
  have et := Option.some.inj (ht3.symm.trans kt)
  subst et
  rw [pow10_data] at hd3
  have hc := Go.Lib.cells_of_tab (k := .u64) Tryd.underlying222 Tryd.underlying177 (by kernel_rfl) (by kernel_rfl) hd3
  refine ⟨⟨pow_of_tab k3 ?_, hml, ⟨_, by simpa using World.var?_cell hg6 hv6 0, .inr ⟨u6, v6, rfl⟩⟩, ⟨_, by simpa using World.var?_cell hg5 hv5 0, .inr ⟨u5, v5, rfl⟩⟩⟩, ?_⟩
  · unfold Go.Lib.TabIs
    refine Eq.trans hv3 ?_
    rw [← hc]
  · have e2' := Option.some.inj e2
    subst e2'
    have hv := hv2
    unfold World.var? at hv
    rw [hg2] at hv
    simp only [Option.bind_some] at hv
    split at hv
    · rename_i cs e f hh
      exact (Array.getElem?_eq_some_iff.1 hh).1
    · simp at hv
/-- The plain wrap: listed variables, and the world's shape, are handed to the contract. -/
theorem returns_laid {H : Type} {enc : TypeId × Value → H} {a : Assume} {C : Checked} {os : Os} {f : FuncId} {fn : Func} {s : ChangeSpec} {conds : List PathCond} {apart fresh handsOn again : Bool} {X : World → Array Value → Prop}
    (hX : ∀ (w w' : World) (args : Array Value), w.heap = w'.heap → X w args → X w' args)
    (own : ownKnob C.prog.godebug = none) (started : os.Started) (noInit : C.prog.inits.idxOf? f = none) (hfn : C.prog.funcs[f]? = some fn)
    (witness : ∃ (w : World) (tape : Tape) (i : Input), w.os = os ∧ (w.forCall tape i).Shaped C.prog ∧ i.vars = [] ∧ Input.okWide C.prog (w.forCall tape i) .any w.heap.size f i ∧
      ((s.pre enc C.prog fn conds apart (w.forCall tape i).memory i.args ∧ X (w.forCall tape i).memory i.args) ∧ sizedMet enc C.prog fn (OpenSpec.ofChange s) apart (w.forCall tape i).memory i.args) ∧ a.holds C.prog (lone (Frame.enter C.prog f i.args .normal) [] (w.forCall tape i)))
    (contract : ∀ (W : World) (base : Nat) (args : Array Value) (ds gs : List (DataW H)) (before : List MemPlace),
      (∀ (j : Nat) t v, fn.params[j]? = some t → args[j]? = some v → Value.okWide C.prog W .any base t v) →
      DataW.Whole enc C.prog fn.params.toList s.vars apart W args.toList ds gs before → X W args → W.ShapedOpen C.prog →
      Calls C.prog f args W fun e W' => ∃ v, e = .returned v ∧ s.post enc C.prog fn apart fresh handsOn again W args v W') :
    ReturnsInHanded a C os f .any (fun w args => (s.pre enc C.prog fn conds apart w args ∧ X w args) ∧ sizedMet enc C.prog fn (OpenSpec.ofChange s) apart w args) (s.post enc C.prog fn apart fresh handsOn again) := by
  refine returnsInHanded_of_calls own started noInit witness ?_
  intro w tape i _ hsh _ hok hpre _
  obtain ⟨_, _, _, fn', hfn', _, _, _, _, hval⟩ := hok
  have e : fn' = fn := Option.some.inj (hfn'.symm.trans hfn)
  subst e
  obtain ⟨⟨⟨ds, gs, before, hw, _⟩, hx⟩, _⟩ := hpre
  refine (contract (w.forCall tape i) w.heap.size i.args ds gs before hval (DataW.Whole.of_heap (w' := w.forCall tape i) (by rfl) hw) (hX _ _ _ (by rfl) hx) hsh).mono fun e W' ⟨v, he, hp⟩ => ?_
  subst he
  exact ChangeSpec.post_blind hp
/-- A law's contract: true, whatever the data. -/
theorem law_callsD {f : FuncId} {l : List Sh} {w : World} {pre : Args l → Nd} (hs : Sat Tryd.prog f (ctOf l pre fun _ => .bool true)) {args : Array Value} {x : Args l} (hL : laidMet Tryd.prog laidT w) (hsh : w.ShapedOpen Tryd.prog) (hp : (pre x).ok) (hd : DenL (pureCx w) (encA l x) args.toList) (hdec : decA l (encA l x) = some x) (hno : noOwn l = true := by rfl) :
    Calls Tryd.prog f args w fun e w' => e = .returned (.bool true) ∧ Below w.heap.size w w' := by
  have hI := laid_inv hL hsh
  have h := hs (encA l x) (pre x) (.bool true) (by simp [hdec, hno]) hp w _ args.toList ⟨hI.1, hI.2, fun _ hx => hx.elim⟩ hd
  rw [Array.toArray_toList] at h
  refine h.mono ?_
  rintro e w' ⟨r, rfl, ⟨u, hr, _⟩, hb⟩
  have hr : r = .bool true := hr
  exact ⟨by rw [hr], hb.below⟩
end Go.Proofs.YtkeckmdmmbeaiaaDoor
