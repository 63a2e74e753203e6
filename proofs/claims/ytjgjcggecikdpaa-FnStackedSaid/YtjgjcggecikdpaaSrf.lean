/- Contracts: slices.SortFunc of fractions. Conditions: as each says. -/
import Derived.Test.YtjgjcggecikdpaaSly
import Derived.Test.YtjgjcggecikdpaaFk
import Derived.Test.YtjgjcggecikdpaaQL
import Derived.Test.YtjgjcggecikdpaaSrtL
set_option linter.unusedSimpArgs false
set_option linter.unusedVariables false
namespace Go.Proofs.Ytjgjcggecikdpaa
open Go.RowKit Sx Go.Shelf
open Go.Sort (grow HoldsK putRowK flatK size_flatK get_flatK)
theorem _root_.Go.Sort.drewN_grow' (w : World) (os : Array Obj) (n : Nat) : (grow w os).drewN n = grow (w.drewN n) os := rfl
/-- Valid fractions. -/
abbrev VF : Type := { x : Int × Int // okF x.1 x.2 = true }
instance : Inhabited VF := ⟨⟨(0, 1), by decide⟩⟩
def encV (x : VF) : List Value := [.int .i64 x.1.1, .int .i64 x.1.2]
def cmpV (x y : VF) : Int := cmpF x.1.1 x.1.2 y.1.1 y.1.2
set_option maxHeartbeats 2000000 in
theorem compare_walk (a b c d : Int) (hb : (1 ≤ b ∧ b ≤ 1000000) ∧ (-1000000000 ≤ a ∧ a ≤ 1000000000)) (hd : (1 ≤ d ∧ d ≤ 1000000) ∧ (-1000000000 ≤ c ∧ c ≤ 1000000000)) (W : World) :
    Calls Try.prog 127 #[.agg #[.int .i64 a, .int .i64 b], .agg #[.int .i64 c, .int .i64 d]] W fun e w' => e = .returned (.int .i64 (cmpF a b c d)) ∧ ∃ q os', w' = grow (W.drewN q) os' := by
  have h1 := mul_bd hb.2 hd.1
  have h2 := mul_bd hd.2 hb.1
  have w1 : IntKind.i64.wrap (a * d) = a * d := by unfold IntKind.wrap; simp [IntKind.bits, IntKind.signed]; omega
  have w2 : IntKind.i64.wrap (c * b) = c * b := by unfold IntKind.wrap; simp [IntKind.bits, IntKind.signed]; omega
  have w3 : IntKind.i64.wrap (a * d - c * b) = a * d - c * b := by unfold IntKind.wrap; simp [IntKind.bits, IntKind.signed]; omega
  unfold cmpF
  clear hb hd h1 h2
  go_enter Try.func127, Try.ntmps127
  go_wp2
  all_goals (go_ret; exact ⟨rfl, 0, _, by rw [Go.Sort.alloc_eq_grow, Go.Sort.alloc_eq_grow, Go.Sort.grow_grow]; rfl⟩)
set_option maxHeartbeats 2000000 in
theorem closure_walk (x y : VF) (W : World) :
    Calls Try.prog 130 #[.agg (encV x).toArray, .agg (encV y).toArray] W fun e w' => e = .returned (.int .i64 (cmpV x y)) ∧ ∃ q os', w' = grow (W.drewN q) os' := by
  have hcon := fun W' => compare_walk x.1.1 x.1.2 y.1.1 y.1.2 (okF_bd x.2) (okF_bd y.2) W'
  unfold encV cmpV
  obtain ⟨⟨a, b⟩, hx⟩ := x
  obtain ⟨⟨c, d⟩, hy⟩ := y
  dsimp only at *
  clear hx hy
  generalize cmpF a b c d = r at hcon ⊢
  go_enter Try.func130, Try.ntmps130
  go_wp2_with (go_at_call 127; refine (hcon _).mono ?_; rintro e w' ⟨rfl, q, os, rfl⟩)
  go_ret
  exact ⟨rfl, q, _, by rw [Go.Sort.alloc_eq_grow, Go.Sort.alloc_eq_grow, Go.Sort.grow_grow, Go.Sort.drewN_grow', Go.Sort.grow_grow]⟩
theorem cmpLaysV (blk off size : Nat) (w : World) : CmpLays Try.prog 130 #[] encV 2 cmpV blk off size w := fun _ _ _ _ x y => closure_walk x y _
theorem ltV (x y : VF) : ltOf cmpV x y = true ↔ qF x.1 < qF y.1 := by
  unfold ltOf
  rw [decide_eq_true_iff]
  exact qF_le (okF_den x.2).2 (okF_den y.2).2
theorem ltV' (x y : VF) : ltOf cmpV x y = false ↔ qF y.1 ≤ qF x.1 := by
  rw [← Bool.not_eq_true, ltV]
  exact Rat.not_lt
theorem swoV : Go.Sort.SWO (ltOf cmpV) where
  irrefl x := by rw [ltV']; exact Rat.le_refl
  trans x y z h1 h2 := by rw [ltV] at *; grind
  ntrans x y z h1 h2 := by rw [ltV'] at *; grind
def ltFr (x y : Int × Int) : Bool := decide (cmpB x y < 0)
def sortFr (l : List tFrac.den) : List tFrac.den := srt ltFr l
theorem insF_perm {x : Int × Int} : ∀ {l : List (Int × Int)}, (ins ltFr x l).Perm (x :: l)
  | [] => .refl _
  | y :: l => by
    unfold ins
    split
    · exact (List.Perm.cons y insF_perm).trans (.swap x y l)
    · exact .refl _
theorem srtF_perm : ∀ {l : List (Int × Int)}, (srt ltFr l).Perm l
  | [] => .refl _
  | _ :: _ => insF_perm.trans (List.Perm.cons _ srtF_perm)
theorem swoFr : Swo (fun x : Int × Int => okF x.1 x.2 = true) ltFr := by
  have h : ∀ x y : Int × Int, okF x.1 x.2 = true → okF y.1 y.2 = true → (ltFr x y = true ↔ qF x < qF y) := fun x y hx hy => by
    unfold ltFr
    rw [decide_eq_true_iff]
    exact qF_le (okF_den hx).2 (okF_den hy).2
  have h' : ∀ x y : Int × Int, okF x.1 x.2 = true → okF y.1 y.2 = true → (ltFr x y = false ↔ qF y ≤ qF x) := fun x y hx hy => by
    rw [← Bool.not_eq_true, h x y hx hy]
    exact Rat.not_lt
  refine ⟨fun x y hx hy e => ?_, fun x y z hx hy hz h1 h2 => ?_⟩
  · rw [h x y hx hy] at e
    rw [h' y x hy hx]
    grind
  · rw [h' _ _ (by assumption) (by assumption)] at *
    grind
/-- A sorted permutation of valid fractions is one. -/
theorem sorted_one {ds : List VF} {d' : Array VF} (hp : Go.Sort.PermIn 0 ds.toArray.size ds.toArray d') (hs : Go.Sort.SortedIn (ltOf cmpV) 0 ds.toArray.size d') :
    d'.toList.map (·.1) = sortFr (ds.map (·.1)) ∧ d'.size = ds.length := by
  obtain ⟨h1, _, h3⟩ := hp
  have hz : d'.size = ds.length := by simpa using h1
  have e1 : d'.extract 0 ds.toArray.size = d' := by rw [← h1]; exact Array.extract_size
  have e2 : ds.toArray.extract 0 ds.toArray.size = ds.toArray := Array.extract_size
  rw [e1, e2] at h3
  refine ⟨?_, hz⟩
  have ok : ∀ x ∈ ds.map (·.1), okF x.1 x.2 = true := fun x hx => by
    obtain ⟨y, _, rfl⟩ := List.mem_map.1 hx
    exact y.2
  have p : (d'.toList.map (·.1)).Perm (srt ltFr (ds.map (·.1))) := (h3.map _).trans srtF_perm.symm
  have ok' : ∀ x ∈ d'.toList.map (·.1), okF x.1 x.2 = true := fun x hx => ok x (srtF_perm.subset (p.subset hx))
  refine List.Perm.eq_of_pairwise (le := fun x y => ltFr y x = false) (fun a b m1 m2 g1 g2 => ?_) ?_ (sorted_srt swoFr ok) p
  · have oa := ok' a m1
    have ob := ok b (srtF_perm.subset m2)
    have g1' : ¬ cmpB b a < 0 := by simpa [ltFr] using g1
    have g2' : ¬ cmpB a b < 0 := by simpa [ltFr] using g2
    rw [qF_le (okF_den ob).2 (okF_den oa).2] at g1'
    rw [qF_le (okF_den oa).2 (okF_den ob).2] at g2'
    exact qF_inj oa ob (by grind)
  · rw [List.pairwise_map, List.pairwise_iff_getElem]
    intro i j hi hj hij
    have hj' : j < d'.size := by simpa using hj
    have hi' : i < d'.size := by simpa using hi
    have := hs i j (Nat.zero_le _) hij (by rw [← h1]; exact hj')
    rw [getElem!_pos d' j hj', getElem!_pos d' i hi'] at this
    exact this
theorem toVF : ∀ {xs : List (Int × Int)}, okFs xs = true → ∃ ds : List VF, ds.map (·.1) = xs
  | [], _ => ⟨[], rfl⟩
  | x :: xs, h => by
    have h' : okF x.1 x.2 = true ∧ okFs xs = true := by simpa [okFs] using h
    obtain ⟨ds, e⟩ := toVF h'.2
    exact ⟨⟨x, h'.1⟩ :: ds, by rw [List.map_cons, e]⟩
/-- A row of fractions, as the shelf says it. -/
theorem holdsV {w : World} {ok : Nat → Prop} {ds : List VF} {b : Nat} {vs rest : List Value} {ty : TypeId} (h : RowAt w ok tFrac (ds.map (·.1)) vs) (hb : w.heap[b]? = some (.cells (List.toArray (vs ++ rest)) ty (0, 0))) :
    HoldsK encV 2 w b 0 ds.toArray := by
  intro j hj
  rw [size_flatK] at hj
  have hl : vs.length = ds.length * 2 := by have := h.1; simpa [tFrac, Ty.size] using this
  have hi : j / 2 < ds.length := by simp at hj; omega
  obtain ⟨us, h1, h2⟩ := h.2 (j / 2) (by simpa using hi)
  obtain ⟨v1, v2, rfl, g1, g2⟩ := h1
  simp only [Reads] at g1 g2
  subst g1 g2
  have h3 := h2 (j % 2) (by simp; omega)
  have e : j / 2 * tFrac.size + j % 2 = j := by show j / 2 * 2 + j % 2 = j; omega
  rw [e] at h3
  refine ⟨?_, ?_⟩
  · rw [get_flatK _ _ _ _ hj, Nat.zero_add]
    simp only [World.cell?, hb]
    have hd : (ds.map (·.1))[j / 2]'(by simpa using hi) = (ds.toArray[j / 2]!).1 := by
      rw [getElem!_pos ds.toArray (j / 2) (by simpa using hi)]
      simp
    rw [hd] at h3
    have hv : vs[j]? = some ((encV ds.toArray[j / 2]!)[j % 2]!) := by
      rw [h3]
      rcases (show j % 2 = 0 ∨ j % 2 = 1 by omega) with e2 | e2 <;> rw [e2] <;> rfl
    rw [if_neg (by simp), List.getElem?_toArray, List.getElem?_append_left (by omega), hv]
    rfl
  · simp [World.frozen?, hb]
theorem flat_len (d' : Array VF) : (flatK encV 2 d').toList.length = d'.size * 2 := by simp [size_flatK]
/-- The row laid down again. -/
theorem rowV {w : World} {ok : Nat → Prop} (d' : Array VF) : RowAt w ok tFrac (d'.toList.map (·.1)) (flatK encV 2 d').toList := by
  refine ⟨by rw [flat_len, List.length_map, Array.length_toList]; rfl, fun i hi => ?_⟩
  have hi' : i < d'.size := by simpa using hi
  refine ⟨encV d'[i]!, ⟨[.int .i64 (d'[i]!).1.1], [.int .i64 (d'[i]!).1.2], rfl, ?_, ?_⟩, fun j hj => ?_⟩
  · simp only [Reads]
    rw [getElem!_pos d' i hi']
    simp
  · simp only [Reads]
    rw [getElem!_pos d' i hi']
    simp
  · have hj' : j < 2 := hj
    have hlt : i * 2 + j < d'.size * 2 := by omega
    show (flatK encV 2 d').toList[i * 2 + j]? = _
    rw [Array.getElem?_toList, getElem?_pos _ _ (by rw [size_flatK]; exact hlt), ← getElem!_pos (flatK encV 2 d') _ (by rw [size_flatK]; exact hlt), get_flatK _ _ _ _ hlt,
      show (i * 2 + j) / 2 = i by omega, show (i * 2 + j) % 2 = j by omega]
    rcases (show j = 0 ∨ j = 1 by omega) with e2 | e2 <;> rw [e2] <;> rfl
theorem putCells_at {vs rest : List Value} (F : Array Value) (h : F.size = vs.length) : Go.Sort.putCells id 0 F (List.toArray (vs ++ rest)) = List.toArray (F.toList ++ rest) := by
  apply Array.ext
  · simp [Go.Sort.putCells, h]
  · intro i h1 h2
    simp only [Go.Sort.putCells, Array.getElem_mapIdx, Nat.zero_add, Nat.zero_le, true_and, Nat.sub_zero, id]
    by_cases hi : i < F.size
    · rw [if_pos hi, getElem!_pos F i hi]
      simp [List.getElem_append, hi]
    · rw [if_neg hi]
      simp only [List.getElem_toArray]
      rw [List.getElem_append_right (by omega), List.getElem_append_right (by simpa using hi)]
      simp [h]
def ct_sortF : Ct := ctOfW [.ov qFrac, .f 130] (fun ((xs : List tFrac.den), _) => .p (okFs xs = true ∧ 1 ≤ xs.length ∧ xs.length ≤ 1000)) (fun _ => .tup []) (fun ((xs : List tFrac.den), _) => ⟨tFrac, sortFr xs⟩)
theorem sat_sortF : Sat Try.prog 129 ct_sortF := by
  intro args p v o hct hp w vs u hgood hd
  simp only at hct
  split at hct
  · rename_i x hx
    simp only [Option.some.injEq, Prod.mk.injEq] at hct
    obtain ⟨rfl, rfl, rfl⟩ := hct
    have hd' := lent_typed hx hd
    obtain ⟨(xs : List tFrac.den), _, _⟩ := x
    obtain ⟨h1, h2, h3⟩ := hp
    have hr := hd'.row tFrac xs rfl
    obtain ⟨r1, vs1, rfl, g1, r2, vs2, rfl, g2, rfl⟩ := hd'.den
    obtain ⟨_, e1, _⟩ := g1
    have e1 : r1 = u := e1
    subst e1
    have g2 : r2 = .func (.func 130) #[] #[] := g2
    subst g2
    have h1 : okFs xs = true := h1
    have h2 : 1 ≤ xs.length := h2
    have h3 : xs.length ≤ 1000 := h3
    obtain ⟨ds, rfl⟩ := toVF h1
    rcases hr with ⟨_, hn⟩ | ⟨b, cap, cs, rest, ty, rfl, hown, hb, hrow, hcap, hle, hpos⟩
    · rw [hn] at h2
      exact absurd h2 (by simp)
    have hb : w.heap[b]? = some (.cells (List.toArray (cs ++ rest)) ty (0, 0)) := hb
    have hbs : b < w.heap.size := (Array.getElem?_eq_some_iff.1 hb).1
    have hlen : cs.length = ds.length * 2 := by have := hrow.1; simpa [tFrac, Ty.size] using this
    have hz : ds.toArray.size = (ds.map (·.1)).length := by simp
    have eg : ∀ args w, (callFunc 130 args).run Try.prog w = .ok (.enter 130 args) w := enters_of Try.func130 (by kernel_rfl) rfl
    have hcon := AnyQ.slices_SortFunc Try.sortF 2 Try.isAgg34 Try.sizeOf34 encV (fun _ => rfl) (fun x v hv => by simp [encV] at hv; rcases hv with rfl | rfl <;> rfl) cmpV swoV 130 #[] b 0 cap ds.toArray w eg
      (cmpLaysV b 0 _ w) (holdsV hrow hb) hbs (by rw [hz]; omega)
    rw [hz] at hcon
    refine Calls.mono hcon ?_
    rintro e w' ⟨rfl, d', n, os, hp, hs, rfl⟩
    obtain ⟨hsort, hsz⟩ := sorted_one (by rw [hz]; exact hp) (by rw [hz]; exact hs)
    have hF : (flatK encV 2 d').size = cs.length := by rw [size_flatK, hlen, hsz]
    have heap : ∀ k, k < w.heap.size → (sortWorldK encV 2 w b 0 n d' os).heap[k]? = (putRowK encV 2 (Go.Sort.ahead w n) b 0 d').heap[k]? := fun k hk => by
      unfold sortWorldK
      exact Go.Sort.heap_grow_old _ _ (by rw [Go.Sort.size_putRowK]; exact hk)
    refine ⟨_, rfl, fun _ => ⟨Go.undef, ⟨[], rfl, rfl⟩, fun _ => rfl, fun t xs hx => by simp [ownsOf, ownsOf.ownsL] at hx⟩, fun _ => ?_, ?_⟩
    · refine .inr ⟨b, cap, (flatK encV 2 d').toList, rest, ty, ?_, hown, ?_, ?_, ?_, ?_, hpos⟩
      · show _ = Value.slice _ (sortFr (ds.map (·.1))).length cap
        rw [← hsort]
        simp [hsz]
      · show (sortWorldK encV 2 w b 0 n d' os).heap[b]? = _
        rw [heap b hbs]
        simp only [putRowK, Go.Sort.putRow, Go.Sort.mapBlock, Array.getElem?_modify]
        rw [if_pos trivial, show (Go.Sort.ahead w n).heap[b]? = _ from hb]
        simp only [Option.map_some, Go.Sort.onCells]
        rw [putCells_at _ hF]
      · show RowAt _ _ tFrac (sortFr (ds.map (·.1))) _
        rw [← hsort]
        exact rowV d'
      · rw [Array.length_toList, hF]
        exact hcap
      · show (sortFr (ds.map (·.1))).length ≤ cap
        rw [← hsort]
        simpa [hsz] using hle
    · refine ⟨rfl, rfl, rfl, ?_, fun k hk hbr => ?_⟩
      · unfold sortWorldK grow
        rw [Array.size_append, Go.Sort.size_putRowK]
        exact Nat.le_add_right _ _
      · rw [heap k hk]
        have hkb : b ≠ k := fun e => hbr (by subst e; exact blkOf_some (by omega))
        simp only [putRowK, Go.Sort.putRow, Go.Sort.mapBlock, Array.getElem?_modify]
        rw [if_neg hkb]
        rfl
  · simp at hct
end Go.Proofs.Ytjgjcggecikdpaa
