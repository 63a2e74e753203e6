/- Small lemmas of this family that speak of no function: what a chain of calls leaves, a law's last step, opening plain structs. Conditions: as each says. -/
import Derived.Test.YtniaandjfafdkaaRows
import Derived.WalkKit
import Derived.WalkSpells
import Derived.WalkLawsBesides
import Derived.BigQuiet
import Derived.Deep.QuietTactic
import Derived.Deep.RegionHeld3
import Derived.Lib.Hide
import Derived.ProofKit
import Derived.Lib.SmallJoins
import Derived.SizedLaws
namespace Go.Proofs.Ytniaandjfafdkaa
open Go.RowKit

theorem ret_int {k : IntKind} {a b : Int} (h : a = b) : Ending.returned (.int k a) = .returned (.int k b) := by rw [h]
theorem ret_bool {a b : Bool} (h : a = b) : Ending.returned (.bool a) = .returned (.bool b) := by rw [h]
theorem bcell {W w1 : World} (hb : Below W.heap.size W w1) : (∀ b o, b < W.heap.size → w1.cell? ⟨b, o, none⟩ = W.cell? ⟨b, o, none⟩) ∧ (∀ b o, b < W.heap.size → w1.frozen? ⟨b, o, none⟩ = W.frozen? ⟨b, o, none⟩) :=
  ⟨fun b o h => hb.cell (p := ⟨b, o, none⟩) h, fun b o h => hb.frozen (p := ⟨b, o, none⟩) h⟩

/-- Nothing that was there in W has turned: as rules for the walk. -/
abbrev Kept (W w' : World) : Prop := (∀ b o, b < W.heap.size → w'.cell? ⟨b, o, none⟩ = W.cell? ⟨b, o, none⟩) ∧ (∀ b o, b < W.heap.size → w'.frozen? ⟨b, o, none⟩ = W.frozen? ⟨b, o, none⟩) ∧ W.heap.size ≤ w'.heap.size ∧ Hid (Below W.heap.size W w')
/-- The same, closed to the walk. -/
def Past (W w' : World) : Prop := Below W.heap.size W w'
theorem Past.refl (W : World) : Past W W := Below.refl _ _
theorem Past.drew {W w1 : World} (h : Past W w1) : Past W w1.drew := Below.drew h
theorem Past.drew0 (W : World) : Past W W.drew := Below.drew (Below.refl _ _)
theorem Past.alloc {W w1 : World} (h : Past W w1) (o : Obj) : Past W (w1.alloc o) := Below.alloc h (Below.size h) o
theorem Kept.of {W w' : World} (h : Below W.heap.size W w') : Kept W w' := ⟨(bcell h).1, (bcell h).2, h.size, h⟩
theorem Kept.below {W w' : World} (h : Kept W w') : Below W.heap.size W w' := h.2.2.2
theorem Kept.past {W w' : World} (h : Kept W w') : Past W w' := h.2.2.2
theorem Kept.start (W : World) : Kept W W.drew := .of (Below.refl _ _).drew
theorem Kept.keep {W W1 w1 : World} (hb : Below W1.heap.size W1 w1) (h : Kept W W1) : Kept W w1 := .of (h.below.trans (hb.mono h.2.2.1))
theorem Kept.drew {W w1 : World} (h : Kept W w1) : Kept W w1.drew := .of h.below.drew
theorem Kept.alloc {W w1 : World} (h : Kept W w1) (o : Obj) : Kept W (w1.alloc o) := .of (h.below.alloc h.2.2.1 o)
theorem Kept.set {W w1 : World} (h : Kept W w1) {p : Addr} (hp : W.heap.size ≤ p.block) (u : Value) : Kept W (w1.setCell p u) := .of (h.below.setCell hp u)
theorem kept_step {W W1 w1 : World} (h : Past W W1) (hb : Below W1.heap.size W1 w1) : Kept W w1 ∧ Past W w1 :=
  ⟨.of (Below.trans h (hb.mono (Below.size h))), Below.trans h (hb.mono (Below.size h))⟩
theorem kept_alloc {W W1 w1 : World} {o : Obj} (h : Past W W1) (hb : Below (W1.alloc o).heap.size (W1.alloc o) w1) : Kept W w1 ∧ Past W w1 ∧ Kept (W1.alloc o) w1 :=
  ⟨(kept_step (h.alloc o) hb).1, (kept_step (h.alloc o) hb).2, .of hb⟩
theorem kept_alloc2 {W W1 w1 : World} {o o' : Obj} (h : Past W W1) (hb : Below ((W1.alloc o).alloc o').heap.size ((W1.alloc o).alloc o') w1) : Kept W w1 ∧ Past W w1 ∧ Kept ((W1.alloc o).alloc o') w1 :=
  ⟨(kept_step ((h.alloc o).alloc o') hb).1, (kept_step ((h.alloc o).alloc o') hb).2, .of hb⟩
theorem fin {w W w1 : World} (h : Below w.heap.size w W) (hp : Past W w1) : Below w.heap.size w w1 := h.trans (Below.mono hp h.size)
theorem fin2 {w W w1 : World} (h : Hid (Below w.heap.size w W)) (hp : Kept W w1) : Below w.heap.size w w1 := fin h.out hp.past
theorem size_setCell (w : World) (a : Addr) (u : Value) : (w.setCell a u).heap.size = w.heap.size := by simp [World.setCell]
theorem size_drew (w : World) : w.drew.heap.size = w.heap.size := rfl
theorem sizes : (∀ (w : World) (a : Addr) (u : Value), (w.setCell a u).heap.size = w.heap.size) ∧ (∀ (w : World) (o : Obj), (w.alloc o).heap.size = w.heap.size + 1) ∧ (∀ w : World, w.drew.heap.size = w.heap.size) :=
  ⟨size_setCell, fun w o => by simp, size_drew⟩
theorem hidden {p : Prop} (h : p) : Hid p := h

theorem Past.size {W w1 : World} (h : Past W w1) : W.heap.size ≤ w1.heap.size := Below.size h
theorem wp_world {P : Program} {c : Code} {Q : Exit → Act → World → Prop} {a : Act} {w : World} (F : World → Prop) (hF : F w) (h : ∀ W, F W → c.wp P Q a W) : c.wp P Q a w := h w hF
/-- A new block laid: the walk goes on in a world with a name. -/
theorem wp_box {P : Program} {c : Code} {Q : Exit → Act → World → Prop} {a : Act} {w : World} {cs : Array Value} {T : TypeId}
    (h : ∀ W : World, W.heap.size = w.heap.size + 1 → (∀ i, W.cell? ⟨w.heap.size, i, none⟩ = cs[i]?) → (∀ i, W.frozen? ⟨w.heap.size, i, none⟩ = false) → Hid (Below w.heap.size w W) → c.wp P Q a W) : c.wp P Q a (w.alloc (.cells cs T)) := by
  refine h _ (by simp) (fun i => ?_) (fun i => ?_) ((Below.refl _ _).alloc (Nat.le_refl _) _)
  · simp [go_sem]
  · simp [go_sem]

def inB (n lo hi : Int) : Bool := decide (lo ≤ n) && decide (n ≤ hi)
theorem inB_iff (n lo hi : Int) : inB n lo hi = true ↔ lo ≤ n ∧ n ≤ hi := by simp [inB]
theorem inB_no (n lo hi : Int) : inB n lo hi = false ↔ ¬ (lo ≤ n ∧ n ≤ hi) := by rw [← inB_iff]; simp
theorem wi64 (n : Int) (h : -9223372036854775808 ≤ n ∧ n ≤ 9223372036854775807) : IntKind.i64.wrap n = n := IntWalk.i64_in n h

theorem fdiv_no (a b : Int) (hb : 1 ≤ b) (h : ¬ a.tmod b < 0) : a.tdiv b = a / b := by
  rw [Int.tmod_eq_emod] at h
  rw [Int.tdiv_eq_ediv]
  split at h
  · rename_i hc; rw [if_pos hc]; omega
  · have := Int.emod_lt_of_pos a (b := b) (by omega)
    omega
theorem fdiv_yes (a b : Int) (hb : 1 ≤ b) (h : a.tmod b < 0) : a.tdiv b - 1 = a / b := by
  rw [Int.tmod_eq_emod] at h
  rw [Int.tdiv_eq_ediv]
  split at h
  · have := Int.emod_nonneg a (b := b) (by omega)
    omega
  · rename_i hc; rw [if_neg hc, Int.sign_eq_one_of_pos (by omega)]; omega

/-! ### the last step of a law -/
open Go.ChangeShapes Go.WideShapes Go.ChangeAt Go.Deep
section
variable {H : Type} {enc : TypeId × Value → H} {P : Program}
theorem trodAll_stays (hl : laidOutB P = true) {W W' : World} {sp' : Nat → Bool} : ∀ (ts : List TypeId) (vs : List Value) (ds : List (DataW H)) (ps : List MemPlace),
    (∀ t ∈ ts, P.readableRec t = true ∧ t < P.types.size) → DataW.TrodAll enc P W 0 (fun _ => true) true ts vs ds ps → (∀ p ∈ ps, W.sameAt W' p) → (∀ p ∈ ps, sp' p.block = true) → DataW.TrodAll enc P W' 0 sp' true ts vs ds ps
  | [], [], [], _, _, h, _, _ => h
  | t :: ts, v :: vs, d :: ds, ps, hr, h, hs, hp => by
    obtain ⟨p, q, h1, h2, rfl⟩ := h
    refine ⟨p, q, Go.WideElems.Trod_stays hl (hr t (by simp)).1 (hr t (by simp)).2 h1 (fun x hx => hs x (by simp [hx])) (fun x hx => hp x (by simp [hx])), ?_, rfl⟩
    exact trodAll_stays hl ts vs ds q (fun x hx => hr x (by simp [hx])) h2 (fun x hx => hs x (by simp [hx])) (fun x hx => hp x (by simp [hx]))
  | [], _ :: _, _, _, _, h, _, _ => by cases h
  | _ :: _, [], _, _, _, h, _, _ => by cases h
  | [], [], _ :: _, _, _, h, _, _ => by cases h
  | _ :: _, _ :: _, [], _, _, h, _, _ => by cases h
theorem trodAll_length {W : World} {b : Nat} {sp : Nat → Bool} {hd : Bool} : ∀ (ts : List TypeId) (vs : List Value) (ds : List (DataW H)) (ps : List MemPlace), DataW.TrodAll enc P W b sp hd ts vs ds ps → ds.length = ts.length
  | [], [], [], _, _ => rfl
  | _ :: ts, _ :: vs, _ :: ds, _, h => by
    obtain ⟨_, q, _, h2, _⟩ := h
    simp [trodAll_length ts vs ds q h2]
  | [], _ :: _, _, _, h => by cases h
  | _ :: _, [], _, _, h => by cases h
  | [], [], _ :: _, _, h => by cases h
  | _ :: _, _ :: _, [], _, h => by cases h

/-- A law that answers true and has written nothing that was there meets its statement's post. -/
theorem law_post {f : Func} {s : ChangeSpec} {apart fresh handsOn again : Bool} {W W' : World} {args : Array Value} {ds gs : List (DataW H)} {before : List MemPlace} {tb : TypeId}
    (hl : laidOutB P = true) (hr : ∀ t ∈ f.params.toList, P.readableRec t = true ∧ t < P.types.size) (htb : P.underlying tb = some .bool) (hrt : f.resultTypes = #[tb]) (hvars : s.vars = [])
    (hs : ∀ ds : List (DataW H), ds.length = f.params.toList.length → s.fn H ds = { results := [.lit (.bool true)], args := ds })
    (hW : DataW.Whole enc P f.params.toList s.vars apart W args.toList ds gs before) (hb : Below W.heap.size W W') :
    s.post enc P f apart fresh handsOn again W args (.bool true) W' := by
  obtain ⟨p, q, hA, hV, rfl, hz, hn⟩ := hW
  have hV0 := hV
  rw [hvars] at hV0
  obtain ⟨rfl, rfl⟩ := trodVars_none hV0
  have hW : DataW.Whole enc P f.params.toList s.vars apart W args.toList ds [] (p ++ []) := ⟨p, [], hA, hV, rfl, hz, hn⟩
  have hlen := trodAll_length _ _ _ _ hA
  have hlt : ∀ x ∈ p, x.block < W.heap.size := fun x hx => hW.lt x (by simpa using hx)
  have hfn : s.fn H (ds ++ []) = { results := [.lit (.bool true)], args := ds } := by rw [List.append_nil]; exact hs ds hlen
  have hargs : ∀ sp : Nat → Bool, (∀ x ∈ p, sp x.block = true) → DataW.TrodAll enc P W' 0 sp true f.params.toList args.toList ds p := fun sp h => trodAll_stays hl _ _ _ _ hr hA (fun x hx => hb.same (hlt x hx)) h
  have hvar : ∀ sp : Nat → Bool, DataW.TrodVars enc P W' sp s.vars ([] : List (DataW H)) [] := fun _ => by rw [hvars]; rfl
  have hres : ∀ (b : Nat) (sp : Nat → Bool) (hd : Bool), DataW.TrodAll enc P W' b sp hd f.resultTypes.toList ((Value.bool true).resultList f.resultTypes.size) [.lit (.bool true)] [] := fun b sp hd => by
    rw [hrt]; exact trodAll_mk1 (shut_bool htb true)
  refine ⟨ds, [], p ++ [], [], p, [], hW, ?_, ?_, ?_, World.keptBut_mono (fun x hx => ⟨hx, .inr (.inl (by simpa using hx))⟩) (hb.frame (· ∈ p ++ [])), fun _ => ?_⟩
  · rw [hfn]; exact hres _ _ _
  · rw [hfn]; exact hargs _ (fun x hx => by simpa using hlt x hx)
  · rw [hfn]; exact hvar _
  · refine ⟨ok_one hrt rfl (okWide_bool_mk htb _), [.lit (.bool true)] ++ ds, [], ([] ++ p) ++ [], ⟨[] ++ p, [], trodAll_append (hargs _ (fun _ _ => rfl)) (hres _ _ _), hvar _, rfl, ?_, ?_⟩, ?_⟩
    · intro b off hp
      have hin : MemPlace.cell b off ∈ p ++ [] := by simpa using hp
      rw [hb.frozen (hlt _ (by simpa using hin))]
      exact hz b off hin
    · intro ha
      have := hn ha
      simpa using this
    · intro x hx _
      simpa using hx
end

/-! ### opening plain structs of integers -/
section
variable {H : Type} {enc : TypeId × Value → H} {P : Program} {w : World} {base : Nat} {spare : Nat → Bool} {held : Bool}
theorem i64_bd {n : Int} (h : (Lit.int .i64 n).wf = true) : -9223372036854775808 ≤ n ∧ n ≤ 9223372036854775807 := by
  simp [Lit.wf, IntKind.min, IntKind.max, IntKind.signed, IntKind.bits] at h
  omega
theorem open_i64 {t : TypeId} {n : Nat} {v : Value} {y : DataW H × List MemPlace} (ht : P.underlying t = some (.int .i64)) (h : DataW.trod enc P w base spare held n t [v] = some y) : ∃ x : Int, v = .int .i64 x ∧ -9223372036854775808 ≤ x ∧ x ≤ 9223372036854775807 := by
  obtain ⟨a, e0, rfl, wa⟩ := DataW.trod_int ht h
  simp at e0
  exact ⟨a, e0, (i64_bd wa).1, (i64_bd wa).2⟩
theorem open_ints2 {r : Reach} {b0 : Nat} {t k : TypeId} {f0 f1 : Field} {v : Value} {d : DataW H} {p : List MemPlace} (hk : P.underlying k = some (.int .i64)) (hs : P.underlying t = some (.struct #[f0, f1])) (h0 : f0.type = k) (h1 : f1.type = k) (hone : oneCellFields P #[f0, f1] = true) (hC : P.cellsOf t = 2)
    (hv : Value.okWide P w r b0 t v) (h : DataW.Trod enc P w base spare held t v d p) :
    ∃ a b : Int, v = .agg #[.int .i64 a, .int .i64 b] ∧ (-9223372036854775808 ≤ a ∧ a ≤ 9223372036854775807) ∧ (-9223372036854775808 ≤ b ∧ b ≤ 9223372036854775807) := by
  obtain ⟨c0, c1, y0, y1, m, rfl, _, _, e0, e1⟩ := Go.Joins.open_agg2 hs hone hC hv h
  rw [h0] at e0; rw [h1] at e1
  obtain ⟨a, rfl, ha⟩ := open_i64 hk e0
  obtain ⟨b, rfl, hb⟩ := open_i64 hk e1
  exact ⟨a, b, rfl, ha, hb⟩
theorem open_ints3 {r : Reach} {b0 : Nat} {t k : TypeId} {f0 f1 f2 : Field} {v : Value} {d : DataW H} {p : List MemPlace} (hk : P.underlying k = some (.int .i64)) (hs : P.underlying t = some (.struct #[f0, f1, f2])) (h0 : f0.type = k) (h1 : f1.type = k) (h2 : f2.type = k) (hone : oneCellFields P #[f0, f1, f2] = true) (hC : P.cellsOf t = 3)
    (hv : Value.okWide P w r b0 t v) (h : DataW.Trod enc P w base spare held t v d p) :
    ∃ a b c : Int, v = .agg #[.int .i64 a, .int .i64 b, .int .i64 c] ∧ (-9223372036854775808 ≤ a ∧ a ≤ 9223372036854775807) ∧ (-9223372036854775808 ≤ b ∧ b ≤ 9223372036854775807) ∧ (-9223372036854775808 ≤ c ∧ c ≤ 9223372036854775807) := by
  obtain ⟨c0, c1, c2, y0, y1, y2, m, rfl, _, _, e0, e1, e2⟩ := Go.Joins.open_agg3 hs hone hC hv h
  rw [h0] at e0; rw [h1] at e1; rw [h2] at e2
  obtain ⟨a, rfl, ha⟩ := open_i64 hk e0
  obtain ⟨b, rfl, hb⟩ := open_i64 hk e1
  obtain ⟨c, rfl, hc⟩ := open_i64 hk e2
  exact ⟨a, b, c, rfl, ha, hb, hc⟩
end
end Go.Proofs.Ytniaandjfafdkaa
