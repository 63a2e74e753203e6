/- The evaluator is sound: rows whose elements hold rows of their own are made, set, appended. Conditions: as each says. -/
import Derived.Test.YtemlpimibhijoaaSxF2
set_option linter.unusedSimpArgs false
set_option linter.unusedVariables false
namespace Go.Proofs.Ytemlpimibhijoaa
open Go.RowKit
namespace Sx
section
variable {P : Program} {base : Base} {w0 w w' : World} {σ σ' : St} {a : Act} {ref : Nat → Value} {c c' : Cx}
/-- As before, but that a row of rows may have other rows within. -/
structure Cx.leH (c c' : Cx) : Prop where
  dom : ∀ n, c.dom n → c'.dom n
  ref : ∀ n, c.dom n → c'.ref n = c.ref n ∨ (headV (c'.ref n) = headV (c.ref n) ∧ (∃ us, c.ref n = .tuple us) ∧ n ≠ 700000)
  ok : ∀ b, c.ok b → c'.ok b
  cell : ∀ b o, c.ok b → c'.w.cell? ⟨b, o, none⟩ = c.w.cell? ⟨b, o, none⟩
theorem Cx.leH.head (h : c.leH c') {n : Nat} (hn : c.dom n) : headV (c'.ref n) = headV (c.ref n) := (h.ref n hn).elim (congrArg headV) (·.1)
mutual
theorem Den.monoH (h : c.leH c') : ∀ {x : AV} {v : Value}, Den c x v → Den c' x v
  | .int _ _, _, hd => hd
  | .bool _, _, hd => hd
  | .lit _, _, hd => hd
  | .str _, _, hd => hd
  | .undef, _, hd => hd
  | .unk, _, hd => hd
  | .fn _, _, hd => hd
  | .nilS, _, hd => hd
  | .empS, _, hd => hd
  | .guess _, _, hd => hd
  | .ptr _ _, _, hd => by
    obtain ⟨h1, b, h2, h3⟩ := hd
    refine ⟨h.dom _ h1, b, ?_, h3⟩
    rcases h.ref _ h1 with e | ⟨_, ⟨us, e⟩, _⟩
    · exact e.trans h2
    · rw [h2] at e; simp at e
  | .inr _ _, _, hd => by
    obtain ⟨h1, s, ins, a, n, cap, h2, h3⟩ := hd
    exact ⟨h.dom _ h1, s, ins, a, n, cap, ((h.ref _ h1).resolve_right fun k => k.2.2 rfl).trans h2, h3⟩
  | .elt _ _ _ _, _, hd => by
    obtain ⟨h1, b, o, n, cap, h2, h3⟩ := hd
    exact ⟨h.dom _ h1, b, o, n, cap, (h.head h1).trans h2, h3⟩
  | .part _ _ _ _, _, hd => by
    obtain ⟨h1, b, o, N, cap, a, cap', h2, h3⟩ := hd
    exact ⟨h.dom _ h1, b, o, N, cap, a, cap', (h.head h1).trans h2, h3⟩
  | .velt _ _ _, _, hd => by
    obtain ⟨b, o, us, h1, h2, h3, h4⟩ := hd
    exact ⟨b, o, us, h1, h.ok _ h2, h3.mono h.ok h.cell, fun j hj => (h.cell _ _ h2).trans (h4 j hj)⟩
  | .view _ _, _, hd => Reads.mono h.ok h.cell hd
  | .own _ _, _, hd => Reads.mono h.ok h.cell hd
  | .row _, _, hd => ⟨h.dom _ hd.1, hd.2.1.trans (h.head hd.1).symm, hd.2.2⟩
  | .clo _ _, _, hd => by
    obtain ⟨vs, h1, h2⟩ := hd
    exact ⟨vs, h1, DenL.monoH h h2⟩
  | .agg _, _, hd => by
    obtain ⟨vs, h1, h2⟩ := hd
    exact ⟨vs, h1, DenL.monoH h h2⟩
  | .tup _, _, hd => by
    obtain ⟨vs, h1, h2⟩ := hd
    exact ⟨vs, h1, DenL.monoH h h2⟩
theorem DenL.monoH (h : c.leH c') : ∀ {xs : List AV} {vs : List Value}, DenL c xs vs → DenL c' xs vs
  | [], _, hd => hd
  | x :: xs, _, hd => by
    obtain ⟨v, vs', rfl, h1, h2⟩ := hd
    exact ⟨v, vs', rfl, Den.monoH h h1, DenL.monoH h h2⟩
end
theorem BlkDen.monoH (hle : c.leH c') {v : Value} {B : Blk} (hb : ∀ b, Owns v b → c'.w.heap[b]? = c.w.heap[b]?) (h : BlkDen c base v B) : BlkDen c' base v B := by
  cases B with
  | box cs =>
    obtain ⟨b, vs, ty, rfl, h1, h2, h3⟩ := h
    exact ⟨b, vs, ty, rfl, h1, (hb b rfl).trans h2, DenL.monoH hle h3⟩
  | row t xs => exact RowDen.move (fun _ _ h => h) hb (fun _ _ h => h.mono hle.ok hle.cell) h
  | dead => trivial
  | hole t e xs i off d =>
    obtain ⟨h1, h2⟩ := h
    refine ⟨hle.dom _ h1, ?_⟩
    rw [hle.head h1]
    exact h2.move (fun _ _ h => h) hb
/-- Names die, one name takes their blocks over: a new one, or a row of rows that keeps its slice. -/
theorem RepAt.regroup {d : Nat} {ns : List Nat} {B' : Blk} {u : Value} (h : RepAt base σ a w ref) (hbr : d ≠ BR)
    (hd : σ.heap d = none ∨ ((∃ B, σ.heap d = some B ∧ B.live = true) ∧ headV u = headV (ref d) ∧ ∃ us, ref d = .tuple us))
    (hns : ∀ n ∈ ns, ∃ t xs, σ.heap n = some (.row t xs)) (hdn : d ∉ ns)
    (hσ : ∀ n, σ'.heap n = if n = d then some B' else if n ∈ ns then some .dead else σ.heap n) (henv : σ'.env = σ.env) (hnt : σ'.nt = σ.nt)
    (hs : w.heap.size ≤ w'.heap.size) (hb : ∀ b, b < w.heap.size → ¬ (σ.heap d ≠ none ∧ Owns (ref d) b) → (∀ n ∈ ns, ¬ Owns (ref n) b) → w'.heap[b]? = w.heap[b]?)
    (hu : ∀ b, Owns u b → (σ.heap d ≠ none ∧ Owns (ref d) b) ∨ (∃ n ∈ ns, Owns (ref n) b) ∨ w.heap.size ≤ b)
    (hB : (cxOf base σ w ref).leH (cxOf base σ' w' (fun n => if n = d then u else ref n)) → BlkDen (cxOf base σ' w' (fun n => if n = d then u else ref n)) base u B') :
    RepAt base σ' a w' (fun n => if n = d then u else ref n) ∧ (cxOf base σ w ref).leH (cxOf base σ' w' (fun n => if n = d then u else ref n)) := by
  have lt : ∀ n B1 b, σ.heap n = some B1 → B1.live = true → Owns (ref n) b → b < w.heap.size := fun n B1 b h1 l1 hb' => ((h.blk n B1 h1).lt l1 hb').2
  have key : ∀ n B1, n ≠ d → σ'.heap n = some B1 → B1.live = true → n ∉ ns ∧ σ.heap n = some B1 := fun n B1 he h1 l1 => by
    rw [hσ, if_neg he] at h1
    split at h1
    · simp only [Option.some.injEq] at h1; subst h1; simp [Blk.live] at l1
    · rename_i he'; exact ⟨he', h1⟩
  -- a block of the row that is left out of none of the others
  have hdl : σ.heap d ≠ none → ∃ B, σ.heap d = some B ∧ B.live = true := fun hne => by
    rcases hd with e | ⟨e, _⟩
    · exact absurd e hne
    · exact e
  have hother : ∀ n B1 b, n ≠ d → n ∉ ns → σ.heap n = some B1 → B1.live = true → Owns (ref n) b → ¬ Owns u b := fun n B1 b he hn h1 l1 e1 e2 => by
    rcases hu b e2 with ⟨hne, h'⟩ | ⟨m, hm, h'⟩ | h'
    · obtain ⟨B, k1, k2⟩ := hdl hne
      exact he (h.inj n d B1 B b h1 l1 k1 k2 e1 h')
    · obtain ⟨t, xs, k⟩ := hns m hm
      exact hn (h.inj n m B1 _ b h1 l1 k rfl e1 h' ▸ hm)
    · have := lt n B1 b h1 l1 e1; omega
  have hle : (cxOf base σ w ref).leH (cxOf base σ' w' (fun n => if n = d then u else ref n)) := by
    refine ⟨fun n ⟨B1, h1⟩ => ?_, fun n hn => ?_, fun b hb' => ⟨Nat.lt_of_lt_of_le hb'.1 hs, hb'.2.1, fun n B1 h1 l1 => ?_⟩, fun b o hb' => cell_of_block (hb b hb'.1 (fun ⟨hne, h'⟩ => ?_) fun n hn h' => ?_)⟩
    · show ∃ B, σ'.heap n = some B
      rw [hσ]
      split
      · exact ⟨_, rfl⟩
      · split
        · exact ⟨_, rfl⟩
        · exact ⟨_, h1⟩
    · show (if n = d then u else ref n) = ref n ∨ (headV (if n = d then u else ref n) = headV (ref n) ∧ _)
      by_cases he : n = d
      · subst he
        simp only [if_true]
        rcases hd with e | ⟨_, e1, e2⟩
        · obtain ⟨B1, h1⟩ := hn; rw [e] at h1; simp at h1
        · exact .inr ⟨e1, e2, hbr⟩
      · simp only [if_neg he]; exact .inl trivial
    · show ¬ Owns (if n = d then u else ref n) b
      by_cases he : n = d
      · rw [if_pos he]
        intro hx
        rcases hu b hx with ⟨hne, h'⟩ | ⟨m, hm, h'⟩ | h'
        · obtain ⟨B, k1, k2⟩ := hdl hne
          exact hb'.2.2 d B k1 k2 h'
        · obtain ⟨t, xs, k⟩ := hns m hm
          exact hb'.2.2 m _ k rfl h'
        · have := hb'.1; omega
      · rw [if_neg he]
        obtain ⟨_, k⟩ := key n B1 he h1 l1
        exact hb'.2.2 n B1 k l1
    · obtain ⟨B, k1, k2⟩ := hdl hne
      exact hb'.2.2 d B k1 k2 h'
    · obtain ⟨t, xs, k⟩ := hns n hn
      exact hb'.2.2 n _ k rfl h'
  refine ⟨⟨by rw [hnt]; exact h.size, fun k => by rw [henv]; exact (h.env k).monoH hle, fun n B1 h1 => ?_, fun n m B1 B2 b h1 l1 h2 l2 e1 e2 => ?_, by rw [hnt]; exact h.le, fun u' hu' hx => ?_⟩, hle⟩
  · by_cases he : n = d
    · subst he
      rw [hσ, if_pos rfl] at h1
      simp only [Option.some.injEq] at h1
      subst h1
      simpa using hB hle
    · simp only [if_neg he]
      cases l1 : B1.live with
      | true =>
        obtain ⟨hnm, h1'⟩ := key n B1 he h1 l1
        refine (h.blk n B1 h1').monoH hle fun b hb' => hb b (lt n B1 b h1' l1 hb') (fun ⟨hne, hx⟩ => ?_) fun m hm hx => ?_
        · obtain ⟨B, k1, k2⟩ := hdl hne
          exact he (h.inj n d B1 B b h1' l1 k1 k2 hb' hx)
        · obtain ⟨t, xs, k⟩ := hns m hm
          exact hnm (h.inj n m B1 _ b h1' l1 k rfl hb' hx ▸ hm)
      | false => cases B1 <;> simp [Blk.live] at l1; trivial
  · by_cases f1 : n = d <;> by_cases f2 : m = d
    · rw [f1, f2]
    · exfalso
      simp only [if_pos f1] at e1
      simp only [if_neg f2] at e2
      obtain ⟨hm, h2'⟩ := key m B2 f2 h2 l2
      exact hother m B2 b f2 hm h2' l2 e2 e1
    · exfalso
      simp only [if_neg f1] at e1
      simp only [if_pos f2] at e2
      obtain ⟨hm, h1'⟩ := key n B1 f1 h1 l1
      exact hother n B1 b f1 hm h1' l1 e1 e2
    · simp only [if_neg f1] at e1
      simp only [if_neg f2] at e2
      obtain ⟨_, h1'⟩ := key n B1 f1 h1 l1
      obtain ⟨_, h2'⟩ := key m B2 f2 h2 l2
      exact h.inj n m B1 B2 b h1' l1 h2' l2 e1 e2
  · simp only [if_neg (Ne.symm hbr)]
    refine h.lent u' hu' fun hy => hx ?_
    rw [hσ, if_neg (Ne.symm hbr), if_neg]
    · exact hy
    · intro hm
      obtain ⟨t, xs, e⟩ := hns _ hm
      rw [hy] at e; simp at e
theorem namesL_app : ∀ (xs ys : List AV), AV.names.namesL (xs ++ ys) = AV.names.namesL xs ++ AV.names.namesL ys
  | [], ys => rfl
  | x :: xs, ys => by simp [AV.names.namesL, namesL_app xs ys]
/-- Cells with names in them as an element with rows of its own. -/
theorem decD_sound {h : Nat → Option Blk} (hb : ∀ n t xs, h n = some (.row t xs) → t.isDeep = false → RowOld c base (c.ref n) t xs) (hp : ∀ n t xs, h n = some (.row t xs) → t.isDeep = false → headV (c.ref n) = c.ref n)
    (hi : ∀ n m b t xs t' xs', h n = some (.row t xs) → h m = some (.row t' xs') → Owns (c.ref n) b → Owns (c.ref m) b → n = m) :
    ∀ {t : Ty} {l : List AV} {x : t.den} {us : List Value}, decD h t l = some x → DenL c l us → ∃ ins, DeepR c base t x us ins ∧ (∀ v ∈ ins, ∀ b, blkOf v = some b → ∃ n ∈ AV.names.namesL l, (∃ t xs, h n = some (.row t xs)) ∧ Owns (c.ref n) b) ∧
      ((AV.names.namesL l).Nodup → ins.Pairwise fun x y => ∀ b, blkOf x = some b → blkOf y ≠ some b)
  | .int k, l, x, us, h1, hd => ⟨[], ⟨den_reads (decT_den (t := .int k) h1 hd), rfl⟩, by simp, fun _ => .nil⟩
  | .bool, l, x, us, h1, hd => ⟨[], ⟨den_reads (decT_den (t := .bool) h1 hd), rfl⟩, by simp, fun _ => .nil⟩
  | .str, l, x, us, h1, hd => ⟨[], ⟨den_reads (decT_den (t := .str) h1 hd), rfl⟩, by simp, fun _ => .nil⟩
  | .deep _, _, _, _, h1, _ => by simp [decD] at h1
  | .seq t, l, x, us, h1, hd => by
    simp only [decD] at h1
    cases hf : t.flat <;> rw [hf] at h1 <;> simp only [cond_true, cond_false, reduceCtorEq] at h1
    unfold decDQ at h1
    split at h1
    · simp only [Option.some.injEq] at h1
      subst h1
      obtain ⟨v, vs', rfl, g1, g2⟩ := hd
      simp only [DenL] at g2
      subst g2
      have g1 : v = .slice none 0 0 := g1
      subst g1
      refine ⟨[.slice none 0 0], ⟨_, rfl, rfl, hf, .inl ⟨⟨none, rfl⟩, rfl⟩⟩, fun v hv b hbv => ?_, fun _ => by simp⟩
      simp only [List.mem_singleton] at hv
      subst hv
      simp [blkOf] at hbv
    · rename_i nm
      split at h1
      · rename_i t' xs hnm
        split at h1
        · rename_i e
          subst e
          simp only [Option.some.injEq] at h1
          subst h1
          obtain ⟨v, vs', rfl, g1, g2⟩ := hd
          simp only [DenL] at g2
          subst g2
          obtain ⟨_, g1, _⟩ := g1
          rw [hp _ _ _ hnm (flat_plain hf)] at g1
          subst g1
          have hro := hb _ _ _ hnm (flat_plain hf)
          refine ⟨[c.ref nm], ⟨_, rfl, rfl, hf, hro⟩, fun v hv b hbv => ?_, fun _ => by simp⟩
          simp only [List.mem_singleton] at hv
          subst hv
          exact ⟨nm, by simp [AV.names.namesL, AV.names], ⟨_, _, hnm⟩, (owns_blk hro.slice).2 hbv⟩
        · simp at h1
      · simp at h1
    · simp at h1
  | .pair a b, l, x, us, h1, hd => by
    simp only [decD] at h1
    split at h1
    · rename_i y z e1 e2
      simp only [Option.some.injEq] at h1
      subst h1
      obtain ⟨i1, d1, n1, p1⟩ := decD_sound hb hp hi e1 (hd.take a.size)
      obtain ⟨i2, d2, n2, p2⟩ := decD_sound hb hp hi e2 (hd.drop a.size)
      have hN : AV.names.namesL l = AV.names.namesL (l.take a.size) ++ AV.names.namesL (l.drop a.size) := by
        rw [← namesL_app, List.take_append_drop]
      refine ⟨i1 ++ i2, ⟨_, _, i1, i2, (List.take_append_drop a.size us).symm, rfl, d1, d2⟩, fun v hv b hbv => ?_, fun hnd => ?_⟩
      · rw [hN]
        rcases List.mem_append.1 hv with hv | hv
        · obtain ⟨n, k1, k2⟩ := n1 v hv b hbv
          exact ⟨n, List.mem_append.2 (.inl k1), k2⟩
        · obtain ⟨n, k1, k2⟩ := n2 v hv b hbv
          exact ⟨n, List.mem_append.2 (.inr k1), k2⟩
      · rw [hN, List.nodup_append] at hnd
        obtain ⟨q1, q2, q3⟩ := hnd
        refine List.pairwise_append.2 ⟨p1 q1, p2 q2, fun v hv v' hv' b hb1 hb2 => ?_⟩
        obtain ⟨n, k1, ⟨t, xs, k2⟩, k3⟩ := n1 v hv b hb1
        obtain ⟨m, j1, ⟨t', xs', j2⟩, j3⟩ := n2 v' hv' b hb2
        exact q3 n k1 m j1 (hi n m b _ _ _ _ k2 j2 k3 j3)
    · simp at h1
theorem zero_den : ∀ l : List Value, DenL c (l.map ofValue) l
  | [] => rfl
  | v :: l => ⟨v, l, rfl, ofValue_den v, zero_den l⟩
theorem zeroOf_run {t : TypeId} {cs : List AV} (h : zeroOf P t = some cs) : ∃ v : Value, (zeroValue t).run P w = .ok v w ∧ DenL c cs v.cells.toList := by
  unfold zeroOf at h
  split at h
  · rename_i v hv
    simp only [Option.some.injEq] at h
    subst h
    cases hi : P.info? t with
    | none => simp [hi] at hv
    | some i =>
      simp only [hi, Option.bind_some] at hv
      exact ⟨v, by simp [zeroValue, typeInfo, hi, hv], zero_den _⟩
  · simp at h
/-- What appending leaves, cell by cell. -/
theorem append_raw {t ty e : TypeId} {tt : Ty} {i : TypeInfo} {z : Value} (ht : P.underlying t = some (.slice e)) (hf : FitApp P e tt i z) {v : Value} {nx ny : Nat} {vs : List Value} {ad : Option Addr} {cap : Nat} {us : List Value}
    (hv : ((∃ a, v = .slice a 0 0) ∧ nx = 0 ∧ vs = []) ∨ ∃ b cap rest ty pre, v = .slice (some ⟨b, List.length pre, none⟩) nx cap ∧ base.own b ∧ w.heap[b]? = some (.cells (List.toArray (pre ++ (vs ++ rest))) ty (0, 0)) ∧ vs.length = nx * tt.size ∧ vs.length + rest.length = cap * tt.size ∧ nx ≤ cap ∧ 0 < cap)
    (hul : us.length = ny * tt.size) (hones : ∀ u ∈ us, u.oneCell' = true) (hcells : us = [] ∨ ∃ b o, ad = some ⟨b, o, none⟩ ∧ ∀ j r, us[j]? = some r → w.cell? ⟨b, o + j, none⟩ = some r) (hlen : nx + ny ≤ 16777216) :
    ∃ v' w', (Builtin.append_ #[t, t] ty #[v, .slice ad ny cap]).run P w = .ok v' w' ∧
      (((∃ a, v' = .slice a 0 0) ∧ v = v' ∧ w' = w ∧ nx + ny = 0) ∨
       (∃ b cap' rest tyy pre, v' = .slice (some ⟨b, List.length pre, none⟩) (nx + ny) cap' ∧ w'.heap[b]? = some (.cells (List.toArray (pre ++ ((vs ++ us) ++ rest))) tyy (0, 0)) ∧ (vs ++ us).length + rest.length = cap' * tt.size ∧ (nx + ny ≤ cap' ∧ 0 < cap') ∧
         w.heap.size ≤ w'.heap.size ∧ ((Owns v b ∧ base.own b ∧ ∃ o, Wrote w w' b o) ∨ (b = w.heap.size ∧ ∃ o, w' = w.drew.alloc o)))) := by
  have hus : us.length = ny * i.size := by rw [hul, hf.size]
  have hzc : ∀ n, (Builtin.zeroCells z.cells n).toList.length = n * tt.size := fun n => by rw [Array.length_toList, size_zeroCells, hf.zsize]
  have haddr : ∀ (b o : Nat), (∀ j r, us[j]? = some r → w.cell? ⟨b, o + j, none⟩ = some r) → ∀ j r, us[j]? = some r → w.cell? ((⟨b, o, none⟩ : Addr).add j) = some r := fun b o h j r hj => by
    rw [add_addr]; exact h j r hj
  rcases hv with ⟨⟨a0, rfl⟩, rfl, rfl⟩ | ⟨b, cp, rest, tyy, pre, rfl, hge, hheap, hr0, hl0, hle0, hpos0⟩
  · by_cases hm : ny = 0
    · have hm : ny = 0 := hm
      subst hm
      refine ⟨.slice a0 0 0, w, ?_, .inl ⟨⟨a0, rfl⟩, rfl, rfl, rfl⟩⟩
      cases ad <;> cases a0 <;> simp [Builtin.append_, run_underlying ht, sizeOf, typeInfo, hf.info, Builtin.lenOf, Builtin.firstCells, loadCells, loadCellsFrom, storeCells]
    · rcases hcells with rfl | ⟨b, o, rfl, hc⟩
      · have hs := tt.size_pos
        rw [hf.size] at hus
        simp only [List.length_nil] at hus
        have : 0 < ny * tt.size := Nat.mul_pos (by omega) hs
        omega
      · simp only [Nat.zero_add] at hlen
        have hr : (Builtin.append_ #[t, t] ty #[.slice a0 0 0, .slice (some ⟨b, o, none⟩) ny cap]).run P w = .ok (.slice (some ⟨w.heap.size, 0, none⟩) ny (grownCap w ny 0 e)) (w.drew.alloc (.cells (us.toArray ++ Builtin.zeroCells z.cells (grownCap w ny 0 e - ny)) e)) := by
          cases a0 with
          | none => exact run_append_nil (P := P) w t ty e i z ht hf.info hf.zero ⟨b, o, none⟩ ny cap us hus (haddr b o hc) (by omega) (by omega) (by have := small_bytes hlen hf.bytes; omega)
          | some ad0 =>
            have := run_append_grow (P := P) w t ty e i z ht hf.info hf.zero ad0 0 0 [] (by simp) (by simp) ⟨b, o, none⟩ ny cap us hus (haddr b o hc) (by omega) (by omega) (by rw [Nat.zero_add]; exact growslice_fits (by omega) (small_bytes hlen hf.bytes))
            simpa using this
        refine ⟨_, _, hr, .inr ⟨w.heap.size, grownCap w ny 0 e, (Builtin.zeroCells z.cells (grownCap w ny 0 e - ny)).toList, e, [], by simp, ?_, ?_, ?_, by simp, .inr ⟨rfl, _, rfl⟩⟩⟩
        · show (w.heap.push _)[w.heap.size]? = _
          simp
        · have hg := grownCap_ge w ny 0 e
          rw [hzc, List.nil_append, hul, ← Nat.add_mul]
          congr 1
          omega
        · have := grownCap_ge w ny 0 e
          omega
  · have hheap' : w.heap[b]? = some (.cells (List.toArray (pre ++ (vs ++ rest))) tyy (0, 0)) := hheap
    have hvl : vs.length = nx * i.size := by rw [hr0, hf.size]
    by_cases hroom : nx + ny ≤ cp
    · have hfit0 : nx * i.size + us.length ≤ vs.length + rest.length := by
        simp only [hl0, hus, hf.size, ← Nat.add_mul]
        exact Nat.mul_le_mul_right _ hroom
      have hfit : List.length pre + nx * i.size + us.length ≤ (List.toArray (pre ++ (vs ++ rest))).size := by
        simp only [List.size_toArray, List.length_append]
        omega
      have hr := append_room (P := P) (ty := ty) ht hf.info hheap' (m := ny) (cp := cap) hus (hcells.imp id (fun ⟨b, o, h1, h2⟩ => ⟨⟨b, o, none⟩, h1, haddr b o h2⟩)) hones hroom hfit
      have htake : (List.toArray (pre ++ (vs ++ rest))).toList.take (List.length pre + nx * i.size) = pre ++ vs := by
        rw [← hvl]
        show (pre ++ (vs ++ rest)).take _ = _
        rw [← List.append_assoc, List.take_append_of_le_length (by simp), List.take_of_length_le (by simp)]
      have hdrop : (List.toArray (pre ++ (vs ++ rest))).toList.drop (List.length pre + nx * i.size + us.length) = rest.drop us.length := by
        rw [← hvl]
        show (pre ++ (vs ++ rest)).drop _ = _
        rw [show List.length pre + vs.length + us.length = (pre ++ vs).length + us.length by simp, ← List.append_assoc, ← List.drop_drop, List.drop_left]
      rw [htake, hdrop] at hr
      have hfit' : vs.length + us.length ≤ vs.length + rest.length := by
        omega
      refine ⟨_, _, hr, .inr ⟨b, cp, rest.drop us.length, tyy, pre, by simp, ?_, ?_, ⟨by simpa using hroom, hpos0⟩, by simp, .inl ⟨owns_some hpos0, hge, _, setRow_wrote hheap'⟩⟩⟩
      · rw [setRow_heap w b _ _ tyy _ hheap']
        simp only [List.append_assoc]
      · simp only [List.length_append, List.length_drop]
        omega
    · have hpos : 0 < ny := by omega
      rcases hcells with rfl | ⟨b2, o2, rfl, hc⟩
      · have hs := tt.size_pos
        rw [hf.size] at hus
        simp only [List.length_nil] at hus
        have : 0 < ny * tt.size := Nat.mul_pos hpos hs
        omega
      · have holds : ∀ j r, vs[j]? = some r → w.cell? ((⟨b, List.length pre, none⟩ : Addr).add j) = some r := fun j r hj => by
          have hjl : j < vs.length := by
            rcases Nat.lt_or_ge j vs.length with h | h
            · exact h
            · rw [List.getElem?_eq_none h] at hj; simp at hj
          rw [add_addr]
          simp only [World.cell?, hheap', Option.isSome_none, Bool.false_eq_true, if_false, List.getElem?_toArray]
          rw [List.getElem?_append_right (by omega), Nat.add_sub_cancel_left, List.getElem?_append_left hjl]; exact hj
        have hr := run_append_grow (P := P) w t ty e i z ht hf.info hf.zero ⟨b, List.length pre, none⟩ nx cp vs hvl holds ⟨b2, o2, none⟩ ny cap us hus (haddr b2 o2 hc) (by omega) (by omega) (growslice_fits (by omega) (small_bytes hlen hf.bytes))
        refine ⟨_, _, hr, .inr ⟨w.heap.size, grownCap w (nx + ny) cp e, (Builtin.zeroCells z.cells (grownCap w (nx + ny) cp e - (nx + ny))).toList, e, [], by simp, ?_, ?_, ?_, by simp, .inr ⟨rfl, _, rfl⟩⟩⟩
        · show (w.heap.push _)[w.heap.size]? = _
          simp
        · have hg := grownCap_ge w (nx + ny) cp e
          rw [hzc, List.length_append, hr0, hul, ← Nat.add_mul, ← Nat.add_mul]
          congr 1
          omega
        · have := grownCap_ge w (nx + ny) cp e
          omega
theorem DeepR.length {t : Ty} {x : t.den} {vs ins : List Value} (h : DeepR c base t x vs ins) : vs.length = t.size := (h.reads (ok := fun b => b < c.w.heap.size) fun _ h => h).length
theorem DeepAt.length {t : Ty} {xs : List t.den} {vs ins : List Value} (h : DeepAt c base t xs vs ins) : vs.length = xs.length * t.size := (h.reads (ok := fun b => b < c.w.heap.size) fun _ h => h).1
theorem DeepAt.ones {t : Ty} {xs : List t.den} {vs ins : List Value} (h : DeepAt c base t xs vs ins) : ∀ u ∈ vs, u.oneCell' = true :=
  RowAt.ones (c := { c with ok := fun b => b < c.w.heap.size }) (h.reads (ok := fun b => b < c.w.heap.size) fun _ h => h)
theorem DeepAt.append {t : Ty} : ∀ {xs ys : List t.den} {vs us i1 i2 : List Value}, DeepAt c base t xs vs i1 → DeepAt c base t ys us i2 → DeepAt c base t (xs ++ ys) (vs ++ us) (i1 ++ i2)
  | [], _, _, _, _, _, h, h' => by obtain ⟨rfl, rfl⟩ := h; exact h'
  | x :: xs, _, _, us, _, i2, h, h' => by
    obtain ⟨v1, v2, j1, j2, rfl, rfl, h1, h2⟩ := h
    exact ⟨v1, v2 ++ us, j1, j2 ++ i2, by simp, by simp, h1, DeepAt.append h2 h'⟩
theorem DeepAt.go {c c' : Cx} {B B' : Base} {t : Ty} {xs : List t.den} {vs ins : List Value} (h : DeepAt c B t xs vs ins) (hb : ∀ u ∈ ins, ∀ b, blkOf u = some b → (B.own b → B'.own b) ∧ c'.w.heap[b]? = c.w.heap[b]?) : DeepAt c' B' t xs vs ins := DeepAt.move hb h
theorem DeepAt.one {t : Ty} {y : t.den} {us jns : List Value} (h : DeepR c base t y us jns) : DeepAt c base t [y] us jns := ⟨us, [], jns, [], by simp, by simp, h, rfl, rfl⟩
theorem DeepAt.set {t : Ty} {y : t.den} {us jns : List Value} (hy : DeepR c base t y us jns) : ∀ {xs : List t.den} {i : Nat} {vs ins : List Value}, i < xs.length → DeepAt c base t xs vs ins →
    ∃ ia ib ic, ins = ia ++ (ib ++ ic) ∧ DeepAt c base t (xs.set i y) (vs.take (i * t.size) ++ us ++ vs.drop (i * t.size + us.length)) (ia ++ (jns ++ ic))
  | [], i, _, _, hi, _ => by simp at hi
  | x :: xs, 0, _, _, _, h => by
    obtain ⟨v1, v2, j1, j2, rfl, rfl, h1, h2⟩ := h
    refine ⟨[], j1, j2, rfl, us, v2, jns, j2, ?_, rfl, hy, h2⟩
    rw [Nat.zero_mul, Nat.zero_add, List.take_zero, List.nil_append, hy.length, ← h1.length, List.drop_left]
  | x :: xs, i + 1, _, _, hi, h => by
    obtain ⟨v1, v2, j1, j2, rfl, rfl, h1, h2⟩ := h
    obtain ⟨ia, ib, ic, rfl, h3⟩ := DeepAt.set hy (i := i) (by simpa using hi) h2
    refine ⟨j1 ++ ia, ib, ic, by simp, v1, _, j1, _, ?_, by simp, h1, h3⟩
    have hl := h1.length
    have e1 : (v1 ++ v2).take ((i + 1) * t.size) = v1 ++ v2.take (i * t.size) := by
      rw [List.take_append, List.take_of_length_le (by rw [hl, Nat.succ_mul]; omega), hl]
      congr 2; rw [Nat.succ_mul]; omega
    have e2 : (v1 ++ v2).drop ((i + 1) * t.size + us.length) = v2.drop (i * t.size + us.length) := by
      rw [List.drop_append, List.drop_of_length_le (by rw [hl, Nat.succ_mul]; omega), hl, List.nil_append]
      congr 1; rw [Nat.succ_mul]; omega
    rw [e1, e2]
    simp
theorem nil_pairwise : ∀ {l : List Value}, (∀ u ∈ l, ∀ b, blkOf u ≠ some b) → l.Pairwise fun x y => ∀ b, blkOf x = some b → blkOf y ≠ some b
  | [], _ => .nil
  | x :: l, h => List.pairwise_cons.2 ⟨fun y _ b e => absurd e (h x (by simp) b), nil_pairwise fun u hu => h u (by simp [hu])⟩
theorem madeCells_succ (z : Array Value) (n : Nat) : (madeCells z ((n + 1) * z.size)).toList = z.toList ++ (madeCells z (n * z.size)).toList := by
  simp only [madeCells, Array.toList_map, Array.toList_range]
  rw [show (n + 1) * z.size = z.size + n * z.size by rw [Nat.succ_mul]; omega, List.range_add, List.map_append, List.map_map]
  congr 1
  · refine List.ext_getElem (by simp) fun i h1 h2 => ?_
    have hi : i < z.size := by simpa using h2
    simp [Nat.mod_eq_of_lt hi, hi]
  · refine List.map_congr_left fun i _ => ?_
    simp [Nat.add_mod_left]
theorem DeepAt.zeros {t : Ty} {y : t.den} {z : Array Value} {i0 : List Value} (h : DeepR c base t y z.toList i0) : ∀ n : Nat, DeepAt c base t (List.replicate n y) (madeCells z (n * t.size)).toList (List.replicate n i0).flatten
  | 0 => by simp [madeCells]; exact ⟨rfl, rfl⟩
  | n + 1 => by
    have hz : z.size = t.size := by have := h.length; simpa using this
    refine ⟨z.toList, _, i0, _, ?_, by rw [List.replicate_succ, List.flatten_cons], h, DeepAt.zeros h n⟩
    rw [← hz, madeCells_succ]
theorem oneName_spec {d : Nat} {ns : List Nat} (h : oneName d ns = true) : d ∉ ns ∧ ns.Nodup := by
  unfold oneName at h
  split at h
  · simp
  · rename_i m
    refine ⟨fun hm => ?_, by simp⟩
    simp only [List.mem_singleton] at hm
    subst hm; simp at h
  · simp at h
/-- What decD wants to know of a heap. -/
theorem RepAt.decD {h : Nat → Option Blk} (hrep : RepAt base σ a w ref) (hsub : ∀ n B, h n = some B → B.live = true → σ.heap n = some B) {t : Ty} {l : List AV} {x : t.den} {us : List Value} (h1 : Sx.decD h t l = some x) (hd : DenL (cxOf base σ w ref) l us) :
    ∃ ins, DeepR (cxOf base σ w ref) base t x us ins ∧ (∀ v ∈ ins, ∀ b, blkOf v = some b → ∃ n ∈ AV.names.namesL l, (∃ t xs, h n = some (.row t xs)) ∧ Owns (ref n) b) ∧ ((AV.names.namesL l).Nodup → ins.Pairwise fun x y => ∀ b, blkOf x = some b → blkOf y ≠ some b) :=
  decD_sound (c := cxOf base σ w ref) (fun n t xs hn hp => (hrep.blk n _ (hsub _ _ hn rfl)).old hp) (fun n t xs hn hp => (hrep.blk n _ (hsub _ _ hn rfl)).hv hp) (fun n m b t xs t' xs' h1 h2 e1 e2 => hrep.inj n m _ _ b (hsub _ _ h1 rfl) rfl (hsub _ _ h2 rfl) rfl e1 e2) h1 hd
theorem indexD_sound {h : Nat → Option Blk} {t : TypeId} {x i v : AV} {p : Nd} {u j : Value} (hc : ∀ b, c.ok b → b < c.w.heap.size) (hh : ∀ n B, h n = some B → BlkDen c base (c.ref n) B) (hr : resIndexD P h t x i = some (p, v)) (hp : p.ok) (hx : Den c x u) (hi : Den c i j) :
    ∃ r, (Instr.indexAt t u j).run P w = .ok r w ∧ Den c v r := by
  unfold resIndexD at hr
  split at hr
  · rename_i n nm k z hes
    obtain ⟨e, hu, hs⟩ := elemSize_run (w := w) hes
    simp only [Den] at hi
    subst hi
    split at hr
    · rename_i ty xs hnm
      cases hb : Nat.beq n ty.size <;> rw [hb] at hr <;> simp only [cond_true, cond_false, Option.some.injEq, Prod.mk.injEq, reduceCtorEq] at hr
      obtain ⟨rfl, rfl⟩ := hr
      have hn : n = ty.size := Nat.eq_of_beq_eq_true hb
      subst hn
      obtain ⟨h1, rfl, _⟩ := hx
      have hp : 0 ≤ z ∧ z < (@List.length ty.den xs : Int) := hp
      rcases (hh _ _ hnm).hdV hc with ⟨_, rfl⟩ | ⟨b, cap, vs, rest, ty', pre, hv, _⟩
      · exfalso
        have : z < 0 := hp.2
        omega
      · rw [hv]
        have hlt : z.toNat < @List.length ty.den xs := by omega
        refine ⟨.pointer (some ⟨b, List.length pre + z.toNat * ty.size, none⟩), ?_, h1, b, _, _, cap, hv, by simp⟩
        have h2 : z < (List.length xs : Int) := hp.2
        simp [Instr.indexAt, asIntOf, hu, hs, hp.1, h2, add_addr]
    · rename_i ty e' xs i0 off0 d0 hnm
      cases hb : Nat.beq n ty.size <;> rw [hb] at hr <;> simp only [cond_true, cond_false, Option.some.injEq, Prod.mk.injEq, reduceCtorEq] at hr
      obtain ⟨rfl, rfl⟩ := hr
      have hn : n = ty.size := Nat.eq_of_beq_eq_true hb
      subst hn
      obtain ⟨h1, rfl, _⟩ := hx
      have hp : 0 ≤ z ∧ z < (@List.length ty.den xs : Int) := hp
      obtain ⟨_, s, ia, ic, hv, _, _, b, cap, vs, rest, ty', pre, rfl, _⟩ := hh _ _ hnm
      have hlt : z.toNat < @List.length ty.den xs := by omega
      rw [hv]
      refine ⟨.pointer (some ⟨b, List.length pre + z.toNat * ty.size, none⟩), ?_, h1, b, List.length pre, xs.length, cap, by rw [hv]; rfl, by simp⟩
      have h2 : z < (List.length xs : Int) := hp.2
      show (Instr.indexAt t (Value.slice (some ⟨b, List.length pre, none⟩) xs.length cap) (Value.int k z)).run P w = _
      simp [Instr.indexAt, asIntOf, hu, hs, hp.1, h2, add_addr]
    · simp at hr
  · simp at hr
/-- A whole element, with rows of its own, stored. -/
theorem storeD0_sound {h : Nat → Option Blk} {t : TypeId} {x v : AV} {r : Res} {u z : Value} (hrep : RepAt base σ a w ref) (hsub : ∀ n B, h n = some B → B.live = true → σ.heap n = some B) (hr : resStoreD0 P h t x v = some r)
    (hp : r.need.ok) (hx : Den (cxOf base σ w ref) x u) (hv : Den (cxOf base σ w ref) v z) :
    ∃ w' b o ref', (Instr.storeAt t u z).run P w = .ok () w' ∧ Wrote w w' b o ∧ base.own b ∧ RepAt base { σ with heap := fun n => findU r.upd n (σ.heap n) } a w' ref' ∧ r.val = .undef ∧ r.upd ≠ [] := by
  unfold resStoreD0 at hr
  split at hr
  · rename_i sz nm i off us n hc hs
    split at hr
    · rename_i ty xs hnm
      cases hb : (Nat.beq off 0 && (Nat.beq n ty.size && (Nat.beq us.length ty.size && (Nat.beq sz ty.size && (!(Nat.beq nm 700000) && (oneName nm (AV.names.namesL us) && rowsOnly h (AV.names.namesL us))))))) <;> rw [hb] at hr <;> simp only [cond_true, cond_false, reduceCtorEq] at hr
      simp only [Bool.and_eq_true, Bool.not_eq_true'] at hb
      obtain ⟨b1, b2, b3, b4, b5, b6, b7⟩ := hb
      have e1 : off = 0 := Nat.eq_of_beq_eq_true b1
      have e2 : n = ty.size := Nat.eq_of_beq_eq_true b2
      have e3 : us.length = ty.size := Nat.eq_of_beq_eq_true b3
      have e4 : sz = ty.size := Nat.eq_of_beq_eq_true b4
      subst e1 e4
      have hnbr : nm ≠ BR := fun he => by subst he; simp [BR] at b5
      obtain ⟨hnn, hnd⟩ := oneName_spec b6
      split at hr
      · rename_i y hy
        simp only [Option.some.injEq] at hr
        subst hr
        have hp : i < @List.length ty.den xs := hp
        have hnm' := hsub _ _ hnm rfl
        obtain ⟨_, b, o, n', cap, hb, rfl⟩ := hx
        obtain ⟨zs, hz, hdz⟩ := cellsOf_den hc hv
        have hlz := hdz.length
        obtain ⟨jns, hR, hown, hpw⟩ := hrep.decD hsub hy hdz
        replace hpw := hpw hnd
        have hns : ∀ m ∈ AV.names.namesL us, ∃ t xs, σ.heap m = some (.row t xs) := fun m hm => by
          obtain ⟨t, xs, e⟩ := rowsOnly_spec b7 m hm
          exact ⟨t, xs, hsub _ _ e rfl⟩
        obtain ⟨s, ins, hrv, hpr, hdp⟩ := (show DeepRow (cxOf base σ w ref) base (ref nm) ty xs from hrep.blk _ _ hnm')
        have hb : headV (ref nm) = .slice (some ⟨b, o, none⟩) n' cap := hb
        rw [hrv] at hb
        have hb : s = .slice (some ⟨b, o, none⟩) n' cap := hb
        rcases hdp with ⟨_, rfl, _⟩ | ⟨b', cap', vs, rest, tyy, pre, hv', hge, hheap, hrow, hlen, hle, hpos⟩
        · simp at hp
        rw [hb] at hv'
        simp only [Value.slice.injEq, Option.some.injEq, Addr.mk.injEq, and_true] at hv'
        obtain ⟨⟨rfl, rfl⟩, rfl, rfl⟩ := hv'
        have hvl := hrow.length
        have hin : i * ty.size + ty.size ≤ vs.length := by
          rw [hvl, ← Nat.succ_mul]; exact Nat.mul_le_mul_right _ hp
        obtain ⟨w', hrun, hw⟩ := storeCells_wrote (P := P) (off := List.length pre + i * ty.size) zs 0 (pre ++ (vs ++ rest)) w hheap (DeepAt.ones (.one hR)) (by simp; omega)
        have harr : (pre ++ (vs ++ rest)).take (List.length pre + i * ty.size + 0) ++ zs ++ (pre ++ (vs ++ rest)).drop (List.length pre + i * ty.size + 0 + zs.length) = pre ++ ((vs.take (i * ty.size) ++ zs ++ vs.drop (i * ty.size + zs.length)) ++ rest) := by
          exact pre_splice pre vs rest zs _ (by omega)
        rw [harr] at hw
        have hsb : blkOf s = some b := by rw [hb]; exact owns_some hpos
        obtain ⟨hpr1, hpr2⟩ := List.pairwise_cons.1 hpr
        have hob : Owns (ref nm) b := by rw [hrv]; exact ⟨s, by simp, hsb⟩
        have hoi : ∀ v ∈ ins, ∀ b', blkOf v = some b' → Owns (ref nm) b' := fun v hv b' e => by rw [hrv]; exact ⟨v, by simp [hv], e⟩
        -- rows that come in are none of the old ones
        have hjn : ∀ v ∈ jns, ∀ b', blkOf v = some b' → ¬ Owns (ref nm) b' := fun v hv b' e hx => by
          obtain ⟨m, hm, ⟨t, xs, k1⟩, k2⟩ := hown v hv b' e
          exact hnn (hrep.inj m nm _ _ b' (hsub _ _ k1 rfl) rfl hnm' rfl k2 hx ▸ hm)
        have hrow' := DeepAt.move (c := cxOf base σ w ref) (c' := cxOf base σ w' ref) (B := base) (B' := base) (fun u hu b' e => ⟨id, hw.other b' fun he => hpr1 u hu b hsb (he ▸ e)⟩) hrow
        have hR' := DeepR.move (c := cxOf base σ w ref) (c' := cxOf base σ w' ref) (B := base) (B' := base) (fun u hu b' e => ⟨id, hw.other b' fun he => hjn u hu b' e (he ▸ hob)⟩) hR
        obtain ⟨ia, ib, ic, hins, hset⟩ := DeepAt.set hR' hp hrow'
        have hmem : ∀ v ∈ ia ++ ic, v ∈ ins := fun v hv => by rw [hins]; rcases List.mem_append.1 hv with h | h <;> simp [h]
        have hgrp := hrep.regroup (σ' := { σ with heap := fun n => findU ((nm, .row (.deep ty) (xs.set i y)) :: killU (AV.names.namesL us)) n (σ.heap n) }) (d := nm) (ns := AV.names.namesL us) (B' := .row (.deep ty) (xs.set i y)) (u := .tuple (List.toArray (s :: (ia ++ (jns ++ ic))))) (w' := w') hnbr
          (.inr ⟨⟨_, hnm', rfl⟩, by rw [hrv]; rfl, _, hrv⟩) hns hnn (fun m => by
            simp only [findU, findU_kill]
            by_cases he : m = nm
            · subst he; simp
            · simp [nbeq_ne he, he]) rfl rfl (by rw [hw.size]; exact Nat.le_refl _) (fun b' _ hne _ => hw.other b' fun he => hne ⟨by rw [hnm']; simp, he ▸ hob⟩) (fun b' hb' => by
            obtain ⟨v, hv, e⟩ := hb'
            have hv : v ∈ s :: (ia ++ (jns ++ ic)) := hv
            rcases List.mem_cons.1 hv with rfl | hv
            · exact .inl ⟨by rw [hnm']; simp, by rw [hrv]; exact ⟨v, by simp, e⟩⟩
            · rcases List.mem_append.1 hv with hv | hv
              · exact .inl ⟨by rw [hnm']; simp, hoi v (hmem v (by simp [hv])) b' e⟩
              · rcases List.mem_append.1 hv with hv | hv
                · obtain ⟨m, hm, _, k⟩ := hown v hv b' e
                  exact .inr (.inl ⟨m, hm, k⟩)
                · exact .inl ⟨by rw [hnm']; simp, hoi v (hmem v (by simp [hv])) b' e⟩) (fun hleH => by
            show DeepRow _ base _ ty (xs.set i y)
            have hpn : (s :: (ia ++ (jns ++ ic))).Pairwise fun x y => ∀ b, blkOf x = some b → blkOf y ≠ some b := by
              have hcr : ∀ v ∈ jns, ∀ v' ∈ s :: ins, ∀ b', blkOf v = some b' → blkOf v' ≠ some b' := fun v hv v' hv' b' e e' => hjn v hv b' e (by rw [hrv]; exact ⟨v', by simpa using hv', e'⟩)
              rw [hins] at hpr2
              obtain ⟨q1, q2, q3⟩ := List.pairwise_append.1 hpr2
              obtain ⟨q4, q5, q6⟩ := List.pairwise_append.1 q2
              refine List.pairwise_cons.2 ⟨fun v hv b' e e' => ?_, List.pairwise_append.2 ⟨q1, List.pairwise_append.2 ⟨hpw, q5, fun v hv v' hv' b' e => hcr v hv v' (List.mem_cons_of_mem _ (hmem v' (by simp [hv']))) b' e⟩, fun v hv v' hv' b' e e' => ?_⟩⟩
              · rcases List.mem_append.1 hv with hv | hv
                · exact hpr1 v (hmem v (by simp [hv])) b' e e'
                · rcases List.mem_append.1 hv with hv | hv
                  · exact hcr v hv s (by simp) b' e' e
                  · exact hpr1 v (hmem v (by simp [hv])) b' e e'
              · rcases List.mem_append.1 hv' with hv' | hv'
                · exact hcr v' hv' v (List.mem_cons_of_mem _ (hmem v (by simp [hv]))) b' e' e
                · exact q3 v hv v' (by simp [hv']) b' e e'
            refine ⟨s, _, rfl, hpn, .inr ⟨b, cap, _, rest, tyy, pre, by rw [List.length_set]; exact hb, hge, hw.here, hset.go (fun u hu b' e => ⟨id, rfl⟩), ?_, by rw [List.length_set]; exact hle, hpos⟩⟩
            have hl2 := hset.length
            rw [List.length_set] at hl2
            have hl3 := hrow.length
            rw [hl2, ← hl3]; exact hlen)
        refine ⟨w', b, _, _, ?_, hw, hge, hgrp.1, rfl, by simp⟩
        · have hz' : z.cells.size = n := by rw [← Array.length_toList, hz, hlz, e3, e2]
          simp only [Instr.storeAt, Instr.sureAddr, storeVar, Sem.run_bind, Sem.run_pure, Result.andThen_ok, size_run hs, hz', ne_eq, not_true, if_false, hz, Nat.add_zero]
          exact hrun
      · simp at hr
    · simp at hr
  · simp at hr
/-- A row of new elements, whose rows are nil. -/
theorem makeD_sound {h : Nat → Option Blk} {dst : Option Nat} {t : TypeId} {l x : AV} {r : Res} {u u' : Value} {ref : Nat → Value} (hrep : RepAt base σ a w ref) (hdk : dstOk σ dst = true) (hbel : Bel base w0 w) (hbase : base.n ≤ w.heap.size)
    (hsub : ∀ n B, h n = some B → B.live = true → σ.heap n = some B) (hfr : ∀ d, dst = some d → h d = none → σ.heap d = none) (hr : resMakeD P h dst t l x = some r) (hp : r.need.ok) (hl : Den (cxOf base σ w ref) l u) (hx : Den (cxOf base σ w ref) x u') :
    ∃ v' w' ref', (Instr.makeSlice t u u').run P w = .ok v' w' ∧ Bel base w0 w' ∧ base.n ≤ w'.heap.size ∧ RepAt base { σ with heap := fun n => findU r.upd n (σ.heap n) } a w' ref' ∧
      Den (cxOf base { σ with heap := fun n => findU r.upd n (σ.heap n) } w' ref') r.val v' ∧ r.upd ≠ [] := by
  unfold resMakeD at hr
  split at hr
  · rename_i e d k z k' z' hu
    have hfr := hfr d rfl
    split at hr
    · rename_i tt cs hdn htt hz
      replace hdn := hfr hdn
      split at hr
      · rename_i y hy
        cases hb : (fitsApp P e tt && (!tt.flat && (AV.names.namesL cs).isEmpty)) <;> rw [hb] at hr <;> simp only [cond_true, cond_false, reduceCtorEq, Option.some.injEq] at hr
        subst hr
        simp only [Bool.and_eq_true, List.isEmpty_iff] at hb
        obtain ⟨hb, _, hN⟩ := hb
        obtain ⟨h0, h1, h2⟩ := (hp : 0 ≤ z ∧ z ≤ z' ∧ z' ≤ 16777216)
        obtain ⟨i, zv, hf⟩ := fitsApp_spec hb
        have hl : u = .int k z := hl
        have hx : u' = .int k' z' := hx
        subst hl hx
        have hbytes : (i.bytes : Int) * z' ≤ 281474976710656 := by
          have h3 := small_bytes (n := z'.toNat) (b := i.bytes) (by omega) hf.bytes
          have h4 : ((z'.toNat * i.bytes : Nat) : Int) ≤ 140737488355328 := by omega
          rw [Int.natCast_mul, Int.toNat_of_nonneg (by omega), Int.mul_comm] at h4
          omega
        have hrun := run_make (P := P) w t e i zv hu hf.info hf.zero k k' z z' h0 h1 hbytes (by omega)
        rw [hf.size] at hrun
        obtain ⟨v, hv, hd⟩ := zeroOf_run (w := w) (c := cxOf base σ w ref) hz
        simp only [zeroValue, typeInfo, Sem.run_bind, run_program, hf.info, hf.zero, Result.andThen_ok, Sem.run_pure, Result.ok.injEq, and_true] at hv
        subst hv
        obtain ⟨i0, hR, hown, _⟩ := hrep.decD hsub hy hd
        have hnil : ∀ u ∈ (List.replicate z.toNat i0).flatten, ∀ b, blkOf u ≠ some b := fun u hu b e => by
          obtain ⟨l, hl, hu⟩ := List.mem_flatten.1 hu
          rw [(List.mem_replicate.1 hl).2] at hu
          obtain ⟨n, hn, _⟩ := hown u hu b e
          rw [hN] at hn; simp at hn
        generalize hins : (List.replicate z.toNat i0).flatten = ins at hnil
        have hσ : ∀ n, ({ σ with heap := fun n => findU [(d, Blk.row (.deep tt) (List.replicate z.toNat y))] n (σ.heap n) } : St).heap n = if n = d then some (.row (.deep tt) (List.replicate z.toNat y)) else σ.heap n := by
          intro n
          simp only [findU]
          by_cases h1 : n = d
          · subst h1; simp
          · rw [nbeq_ne h1, if_neg h1]; rfl
        generalize hcs : madeCells zv.cells (z'.toNat * tt.size) = arr at hrun
        have hasz : arr.size = z'.toNat * tt.size := by rw [← hcs, size_madeCells]
        have hgrow : ∀ b, b < w.heap.size → (w.alloc (.cells arr e)).heap[b]? = w.heap[b]? := fun b hb => by
          show (w.heap.push _)[b]? = _
          rw [Array.getElem?_push, if_neg (by omega)]
        have huu : ∀ b, Owns (.tuple (List.toArray (.slice (some ⟨w.heap.size, 0, none⟩) z.toNat z'.toNat :: ins))) b → w.heap.size ≤ b := fun b hb => by
          obtain ⟨q, hq, e⟩ := hb
          have hq : q ∈ Value.slice (some ⟨w.heap.size, 0, none⟩) z.toNat z'.toNat :: ins := hq
          rcases List.mem_cons.1 hq with rfl | hq
          · have hb := owns_slice (b := b) e; simp only at hb; omega
          · exact absurd e (hnil q hq b)
        refine ⟨_, _, _, hrun, hbel.alloc hbase _, by simp; omega, hrep.add (nm := d) (u := .tuple (List.toArray (.slice (some ⟨w.heap.size, 0, none⟩) z.toNat z'.toNat :: ins))) (dst_ne hrep hdk) hdn hσ rfl rfl (by simp) hgrow huu ?_, ⟨⟨_, by rw [hσ, if_pos rfl]⟩, by simp [cxOf, headV], _, _, _, rfl⟩, by simp⟩
        have hsplit : arr.toList = arr.toList.take (z.toNat * tt.size) ++ arr.toList.drop (z.toNat * tt.size) := (List.take_append_drop _ _).symm
        have hzz : z.toNat * tt.size ≤ z'.toNat * tt.size := Nat.mul_le_mul_right _ (by omega)
        show DeepRow _ base _ tt (List.replicate z.toNat y)
        refine ⟨_, ins, rfl, List.pairwise_cons.2 ⟨fun q hq b _ e => hnil q hq b e, nil_pairwise hnil⟩, ?_⟩
        rcases Nat.eq_zero_or_pos z'.toNat with h00 | hlp
        · have hz0 : z.toNat = 0 := by omega
          exact .inl ⟨⟨_, by rw [h00, hz0]⟩, by rw [hz0]; rfl, by rw [← hins, hz0]; rfl⟩
        refine .inr ⟨w.heap.size, z'.toNat, arr.toList.take (z.toNat * tt.size), arr.toList.drop (z.toNat * tt.size), e, [], by rw [List.length_replicate]; rfl, .inl hbase, ?_, ?_, ?_, by rw [List.length_replicate]; omega, hlp⟩
        · show (w.heap.push _)[w.heap.size]? = _
          rw [← hsplit]
          simp
        · have : arr.toList.take (z.toNat * tt.size) = (madeCells zv.cells (z.toNat * tt.size)).toList := by
            rw [← hcs]
            simp only [madeCells, Array.toList_map, Array.toList_range, ← List.map_take, List.take_range, Nat.min_eq_left hzz]
          rw [this, ← hins]
          refine DeepAt.zeros (hR.move fun u hu b e => ?_) _
          obtain ⟨n, hn, _⟩ := hown u hu b e
          rw [hN] at hn; simp at hn
        · simp only [List.length_take, List.length_drop, Array.length_toList, hasz]; omega
      · simp at hr
    · simp at hr
  · simp at hr
theorem cellsOf_names {v : AV} {us : List AV} (h : cellsOf v = some us) : AV.names.namesL us = v.names := by
  cases v <;> simp only [cellsOf, Option.some.injEq, reduceCtorEq] at h <;> subst h <;> simp [AV.names, AV.names.namesL]
theorem RepAt.decDRow {h : Nat → Option Blk} (hrep : RepAt base σ a w ref) (hsub : ∀ n B, h n = some B → B.live = true → σ.heap n = some B) {t : Ty} : ∀ {l : List AV} {xs : List t.den} {rs : List Value}, Sx.decDRow h t l = some xs → DenL (cxOf base σ w ref) l rs →
    ∃ ins, DeepAt (cxOf base σ w ref) base t xs (rs.flatMap fun r => r.cells.toList) ins ∧ (∀ r ∈ rs, r.cells.size = t.size) ∧ (∀ v ∈ ins, ∀ b, blkOf v = some b → ∃ n ∈ AV.names.namesL l, (∃ t xs, h n = some (.row t xs)) ∧ Owns (ref n) b) ∧ ((AV.names.namesL l).Nodup → ins.Pairwise fun x y => ∀ b, blkOf x = some b → blkOf y ≠ some b)
  | [], xs, rs, h1, hd => by
    simp only [Sx.decDRow, Option.some.injEq] at h1
    simp only [DenL] at hd
    subst h1 hd
    exact ⟨[], ⟨rfl, rfl⟩, by simp, by simp, fun _ => .nil⟩
  | v :: l, xs, _, h1, hd => by
    simp only [Sx.decDRow] at h1
    split at h1
    · rename_i x ys e1 e2
      simp only [Option.some.injEq] at h1
      subst h1
      obtain ⟨r, rs', rfl, g1, g2⟩ := hd
      obtain ⟨us, k1, k2⟩ := Option.bind_eq_some_iff.1 e1
      obtain ⟨zs, hz, hdz⟩ := cellsOf_den k1 g1
      obtain ⟨i1, d1, n1, p1⟩ := hrep.decD hsub k2 hdz
      obtain ⟨i2, d2, s2, n2, p2⟩ := RepAt.decDRow hrep hsub e2 g2
      have hN : AV.names.namesL (v :: l) = AV.names.namesL us ++ AV.names.namesL l := by rw [cellsOf_names k1]; rfl
      refine ⟨i1 ++ i2, ⟨zs, _, i1, i2, by rw [List.flatMap_cons, hz], rfl, d1, d2⟩, fun q hq => ?_, fun q hq b hbv => ?_, fun hnd => ?_⟩
      · rcases List.mem_cons.1 hq with rfl | hq
        · rw [← Array.length_toList, hz]; exact d1.length
        · exact s2 q hq
      · rw [hN]
        rcases List.mem_append.1 hq with hq | hq
        · obtain ⟨n, k1, k2⟩ := n1 q hq b hbv
          exact ⟨n, List.mem_append.2 (.inl k1), k2⟩
        · obtain ⟨n, k1, k2⟩ := n2 q hq b hbv
          exact ⟨n, List.mem_append.2 (.inr k1), k2⟩
      · rw [hN, List.nodup_append] at hnd
        obtain ⟨q1, q2, q3⟩ := hnd
        refine List.pairwise_append.2 ⟨p1 q1, p2 q2, fun v hv v' hv' b hb1 hb2 => ?_⟩
        obtain ⟨n, k1, ⟨t, xs, k2⟩, k3⟩ := n1 v hv b hb1
        obtain ⟨m, j1, ⟨t', xs', j2⟩, j3⟩ := n2 v' hv' b hb2
        exact q3 n k1 m j1 (hrep.inj n m _ _ b (hsub _ _ k2 rfl) rfl (hsub _ _ j2 rfl) rfl k3 j3)
    · simp at h1
theorem buildSliceD_sound {h : Nat → Option Blk} {dst : Option Nat} {t : TypeId} {len : Nat} {parts : Array (Nat × Operand)} {vals : List AV} {r : Res} (hrep : RepAt base σ a w ref) (hdk : dstOk σ dst = true) (hbel : Bel base w0 w) (hbase : base.n ≤ w.heap.size)
    (hsub : ∀ n B, h n = some B → B.live = true → σ.heap n = some B) (hfr : ∀ d, dst = some d → h d = none → σ.heap d = none) (hop : DenL (cxOf base σ w ref) vals ((parts.toList.map (·.2)).map a.eval)) (hr : resBuildSliceD P h dst t len (parts.toList.map (·.1)) vals = some r) :
    ∃ v' w' ref', (Instr.buildSlice t len (parts.map fun (i, x) => (i, a.eval x))).run P w = .ok v' w' ∧ Bel base w0 w' ∧ base.n ≤ w'.heap.size ∧ RepAt base { σ with heap := fun n => findU r.upd n (σ.heap n) } a w' ref' ∧
      Den (cxOf base { σ with heap := fun n => findU r.upd n (σ.heap n) } w' ref') r.val v' ∧ r.upd ≠ [] := by
  unfold resBuildSliceD at hr
  split at hr
  · rename_i e d hu
    have hfr := hfr d rfl
    split at hr
    · rename_i tt n zs hdn htt hn hz
      replace hdn := hfr hdn
      split at hr
      · rename_i xs hxs
        cases hb : ((!tt.flat && (tt.dOk && (oneName d (AV.names.namesL vals) && rowsOnly h (AV.names.namesL vals)))) && (Nat.beq n tt.size && (Nat.ble (len * n) 16777216 && (Nat.beq (parts.toList.map (·.1)).length len && (isRange 0 (parts.toList.map (·.1)) && Nat.beq vals.length len))))) <;> rw [hb] at hr <;> simp only [cond_true, cond_false, reduceCtorEq, Option.some.injEq] at hr
        subst hr
        simp only [Bool.and_eq_true, Nat.ble_eq] at hb
        obtain ⟨⟨_, _, c1, c2⟩, b1, b2, b3, b4, b5⟩ := hb
        obtain ⟨hnn, hnd⟩ := oneName_spec c1
        have b1 : n = tt.size := Nat.eq_of_beq_eq_true b1
        have b3 : (parts.toList.map (·.1)).length = len := Nat.eq_of_beq_eq_true b3
        have hlen : parts.toList.length = len := by simpa using b3
        have hidx := isRange_eq b4
        obtain ⟨ins, hrow, hsz, hown, hpw⟩ := hrep.decDRow hsub hxs hop
        replace hpw := hpw hnd
        have hrl : ((parts.toList.map (·.2)).map a.eval).length = len := by simpa using hlen
        obtain ⟨zv, hzr, _⟩ := zeroOf_run' (w := w) hz
        have hparts : (parts.map fun (i, x) => (i, a.eval x)).toList = (List.range' 0 ((parts.toList.map (·.2)).map a.eval).length).zip ((parts.toList.map (·.2)).map a.eval) := by
          have e1 : (parts.map fun (i, x) => (i, a.eval x)).toList = (parts.toList.map (·.1)).zip ((parts.toList.map (·.2)).map a.eval) := by
            simp only [Array.toList_map]
            induction parts.toList with
            | nil => rfl
            | cons p l ih => simp [ih]
          rw [e1, hidx, b3, hrl]
        have hfill := fun (rest : List Value) (hr' : rest.length = ((parts.toList.map (·.2)).map a.eval).length * tt.size) => fill_row (size := tt.size) ((parts.toList.map (·.2)).map a.eval) 0 [] rest (by simp) hsz hr'
        generalize hus : (((parts.toList.map (·.2)).map a.eval).flatMap fun r => r.cells.toList) = us at hrow hfill
        have hrun : (Instr.buildSlice t len (parts.map fun (i, x) => (i, a.eval x))).run P w = .ok (.slice (some ⟨w.heap.size, 0, none⟩) len len) { w with heap := w.heap.push (.cells us.toArray e) } := by
          unfold Instr.buildSlice
          simp only [Sem.run_bind, Go.underlying, run_program, Result.andThen_ok, hu, Sem.run_pure, size_run hn]
          rw [if_neg (by omega)]
          by_cases h0 : len * n = 0
          · simp only [h0, if_true, Sem.run_pure, Result.andThen_ok, Sem.run_bind]
            have hf := hfill [] (by rw [hrl, ← b1, h0]; rfl)
            simp only [List.nil_append] at hf
            rw [hparts]
            have er : (Array.range 0).map (fun x => (#[] : Array Value)[x % (#[] : Array Value).size]!) = #[] := by simp
            simp only [er, b1]
            rw [show (#[] : Array Value) = [].toArray from rfl, hf]
            simp [newRow]
          · simp only [h0, if_false, Sem.run_bind, hzr, Result.andThen_ok, Sem.run_pure]
            have hf := hfill ((Array.range (len * n)).map (fun x => zv.cells[x % zv.cells.size]!)).toList (by simp [hlen, b1])
            simp only [List.nil_append, Array.toArray_toList] at hf
            rw [hparts]
            simp only [b1] at hf ⊢
            rw [hf]
            simp [newRow]
        have hns : ∀ m ∈ AV.names.namesL vals, ∃ t xs, σ.heap m = some (.row t xs) := fun m hm => by
          obtain ⟨t, xs, e⟩ := rowsOnly_spec c2 m hm
          exact ⟨t, xs, hsub _ _ e rfl⟩
        have hxl : xs.length = len := by
          have h1 := hrow.length
          have h2 : us.length = len * tt.size := by
            rw [← hus, ← hrl]
            have : ∀ l : List Value, (∀ r ∈ l, r.cells.size = tt.size) → (l.flatMap fun r => r.cells.toList).length = l.length * tt.size := by
              intro l
              induction l with
              | nil => simp
              | cons x l ih =>
                intro h
                have hx : x.cells.toList.length = tt.size := by simpa using h x (by simp)
                rw [List.flatMap_cons, List.length_append, hx, ih (fun r hr => h r (by simp [hr])), List.length_cons, Nat.succ_mul]; omega
            exact this _ hsz
          exact Nat.eq_of_mul_eq_mul_right tt.size_pos (h1.symm.trans h2)
        have hgrow : ∀ b, b < w.heap.size → ({ w with heap := w.heap.push (.cells us.toArray e) } : World).heap[b]? = w.heap[b]? := fun b hb => by
          show (w.heap.push _)[b]? = _
          rw [Array.getElem?_push, if_neg (by omega)]
        have hσ : ∀ m, ({ σ with heap := fun n => findU ((d, .row (.deep tt) xs) :: killU (AV.names.namesL vals)) n (σ.heap n) } : St).heap m = if m = d then some (.row (.deep tt) xs) else if m ∈ AV.names.namesL vals then some .dead else σ.heap m := fun m => by
          simp only [findU, findU_kill]
          by_cases he : m = d
          · subst he; simp
          · simp [nbeq_ne he, he]
        have hilt : ∀ v ∈ ins, ∀ b, blkOf v = some b → b < w.heap.size := fun v hv b e => by
          obtain ⟨m, _, ⟨t, xs, k1⟩, k2⟩ := hown v hv b e
          exact ((hrep.blk m _ (hsub _ _ k1 rfl)).lt rfl k2).2
        have hgrp := hrep.regroup (d := d) (ns := AV.names.namesL vals) (B' := .row (.deep tt) xs) (u := .tuple (List.toArray (.slice (some ⟨w.heap.size, 0, none⟩) len len :: ins))) (w' := { w with heap := w.heap.push (.cells us.toArray e) }) (dst_ne hrep hdk)
          (.inl hdn) hns hnn hσ rfl rfl (by simp) (fun b hb _ _ => hgrow b hb) (fun b hb => by
            obtain ⟨q, hq, e⟩ := hb
            have hq : q ∈ Value.slice (some ⟨w.heap.size, 0, none⟩) len len :: ins := hq
            rcases List.mem_cons.1 hq with rfl | hq
            · have hb := owns_slice (b := b) e; simp only at hb; exact .inr (.inr (by omega))
            · obtain ⟨m, hm, _, k⟩ := hown q hq b e
              exact .inr (.inl ⟨m, hm, k⟩)) (fun _ => by
            show DeepRow _ base _ tt xs
            refine ⟨_, ins, rfl, List.pairwise_cons.2 ⟨fun q hq b e e' => ?_, hpw⟩, ?_⟩
            · have hb := owns_slice (b := b) e
              simp only at hb
              have := hilt q hq b e'
              omega
            rcases Nat.eq_zero_or_pos len with h00 | hlp
            · have hxe : xs = [] := List.eq_nil_of_length_eq_zero (by omega)
              subst hxe
              exact .inl ⟨⟨_, by rw [h00]⟩, rfl, hrow.2⟩
            refine .inr ⟨w.heap.size, len, us, [], e, [], by rw [hxl]; rfl, .inl hbase, ?_, hrow.go fun u hu b e => ⟨id, hgrow b (hilt u hu b e)⟩, ?_, by omega, hlp⟩
            · show (w.heap.push _)[w.heap.size]? = _
              simp
            · rw [hrow.length, hxl]; simp)
        exact ⟨_, _, _, hrun, hbel.alloc hbase _, by simp; omega, hgrp.1, ⟨⟨_, by rw [hσ, if_pos rfl]⟩, by simp [cxOf, headV], _, _, _, rfl⟩, by simp⟩
      · simp at hr
    · simp at hr
  · simp at hr
theorem DeepRow.parts {v : Value} {t : Ty} {xs : List t.den} (h : DeepRow c base v t xs) : ∃ s ins vs, v = .tuple (List.toArray (s :: ins)) ∧ (s :: ins).Pairwise (fun x y => ∀ b, blkOf x = some b → blkOf y ≠ some b) ∧ DeepAt c base t xs vs ins ∧
    (((∃ a, s = .slice a 0 0) ∧ xs.length = 0 ∧ vs = []) ∨ ∃ b cap rest ty pre, s = .slice (some ⟨b, List.length pre, none⟩) xs.length cap ∧ base.own b ∧ c.w.heap[b]? = some (.cells (List.toArray (pre ++ (vs ++ rest))) ty (0, 0)) ∧ vs.length = xs.length * t.size ∧ vs.length + rest.length = cap * t.size ∧ xs.length ≤ cap ∧ 0 < cap) := by
  obtain ⟨s, ins, rfl, hp, h⟩ := h
  rcases h with ⟨h1, rfl, rfl⟩ | ⟨b, cap, vs, rest, ty, pre, h1, h2, h3, h4, h5⟩
  · exact ⟨s, [], [], rfl, hp, ⟨rfl, rfl⟩, .inl ⟨h1, rfl, rfl⟩⟩
  · exact ⟨s, ins, vs, rfl, hp, h4, .inr ⟨b, cap, rest, ty, pre, h1, h2, h3, h4.length, h5⟩⟩
theorem appendD_sound {h : Nat → Option Blk} {dst : Option Nat} {ts : Array TypeId} {ty : TypeId} {x y : AV} {r : Res} {u z : Value} (hrep : RepAt base σ a w ref) (hdk : dstOk σ dst = true) (hbel : Bel base w0 w) (hbase : base.n ≤ w.heap.size)
    (hsub : ∀ n B, h n = some B → B.live = true → σ.heap n = some B) (hfr : ∀ d, dst = some d → h d = none → σ.heap d = none)
    (hr : resAppendD P h dst ts.toList x y = some r) (hp : r.need.ok) (hx : Den (cxOf base σ w ref) x u) (hy : Den (cxOf base σ w ref) y z) :
    ∃ v' w' ref', (Builtin.append_ ts ty #[u, z]).run P w = .ok v' w' ∧ Bel base w0 w' ∧ base.n ≤ w'.heap.size ∧ RepAt base { σ with heap := fun n => findU r.upd n (σ.heap n) } a w' ref' ∧
      Den (cxOf base { σ with heap := fun n => findU r.upd n (σ.heap n) } w' ref') r.val v' ∧ r.upd ≠ [] := by
  unfold resAppendD at hr
  split at hr
  · rename_i t t' d nm nm2 hts
    have htsz : ts = #[t, t'] := by apply Array.ext'; exact hts
    subst htsz
    have hfr := hfr d rfl
    split at hr
    · rename_i e tt xs tt2 ys hu hdn hnm hnm2
      split at hr
      · rename_i he
        subst he
        cases hb : (Nat.beq t t' && (fitsApp P e tt2 && (!(Nat.beq nm d) && (!(Nat.beq nm2 d) && !(Nat.beq nm nm2))))) <;> rw [hb] at hr <;> simp only [cond_true, cond_false, reduceCtorEq, Option.some.injEq] at hr
        subst hr
        simp only [Bool.and_eq_true, Bool.not_eq_true'] at hb
        obtain ⟨b1, b2, b3, b4, b5⟩ := hb
        have e0 : t = t' := Nat.eq_of_beq_eq_true b1
        subst e0
        have n1 : nm ≠ d := fun he => by subst he; simp at b3
        have n2 : nm2 ≠ d := fun he => by subst he; simp at b4
        have n3 : nm ≠ nm2 := fun he => by subst he; simp at b5
        replace hdn := hfr hdn
        have hnm' := hsub _ _ hnm rfl
        have hnm2' := hsub _ _ hnm2 rfl
        obtain ⟨i, zz, hf⟩ := fitsApp_spec b2
        obtain ⟨s1, i1, vs, r1, p1, d1, k1⟩ := (show DeepRow (cxOf base σ w ref) base (ref nm) tt2 xs from hrep.blk _ _ hnm').parts
        obtain ⟨s2, i2, us, r2, p2, d2, k2⟩ := (show DeepRow (cxOf base σ w ref) base (ref nm2) tt2 ys from hrep.blk _ _ hnm2').parts
        obtain ⟨_, hx, _⟩ := hx
        obtain ⟨_, hy, _⟩ := hy
        have hx : u = headV (ref nm) := hx
        have hy : z = headV (ref nm2) := hy
        rw [r1] at hx
        rw [r2] at hy
        have hx : u = s1 := hx
        have hy : z = s2 := hy
        subst hx hy
        have o1 : ∀ v ∈ u :: i1, ∀ b, blkOf v = some b → Owns (ref nm) b := fun v hv b e => by rw [r1]; exact ⟨v, by simpa using hv, e⟩
        have o2 : ∀ v ∈ z :: i2, ∀ b, blkOf v = some b → Owns (ref nm2) b := fun v hv b e => by rw [r2]; exact ⟨v, by simpa using hv, e⟩
        have l1 : ∀ v ∈ u :: i1, ∀ b, blkOf v = some b → b < w.heap.size := fun v hv b e => ((hrep.blk _ _ hnm').lt rfl (o1 v hv b e)).2
        have l2 : ∀ v ∈ z :: i2, ∀ b, blkOf v = some b → b < w.heap.size := fun v hv b e => ((hrep.blk _ _ hnm2').lt rfl (o2 v hv b e)).2
        have o12 : ∀ v ∈ u :: i1, ∀ v' ∈ z :: i2, ∀ b, blkOf v = some b → blkOf v' ≠ some b := fun v hv v' hv' b e e' => n3 (hrep.inj nm nm2 _ _ b hnm' rfl hnm2' rfl (o1 v hv b e) (o2 v' hv' b e'))
        obtain ⟨q1, q2⟩ := List.pairwise_cons.1 p1
        obtain ⟨q3, q4⟩ := List.pairwise_cons.1 p2
        have hp : @List.length tt2.den xs + @List.length tt2.den ys ≤ 16777216 := hp
        obtain ⟨ad, cap, hz, hcells⟩ : ∃ ad cap, z = .slice ad (@List.length tt2.den ys) cap ∧ (us = [] ∨ ∃ b o, ad = some ⟨b, o, none⟩ ∧ ∀ j r, us[j]? = some r → w.cell? ⟨b, o + j, none⟩ = some r) := by
          rcases k2 with ⟨⟨a0, h1⟩, h2, h3⟩ | ⟨b, cap, rest, tyy, pre, h1, h2, h3, h4, h5⟩
          · exact ⟨a0, 0, by rw [h1, h2], .inl h3⟩
          · refine ⟨_, _, h1, .inr ⟨b, _, rfl, fun j r hj => ?_⟩⟩
            have hjl : j < us.length := by
              rcases Nat.lt_or_ge j us.length with h | h
              · exact h
              · rw [List.getElem?_eq_none h] at hj; simp at hj
            have h3 : w.heap[b]? = some (.cells (List.toArray (pre ++ (us ++ rest))) tyy (0, 0)) := h3
            simp only [World.cell?, h3, Option.isSome_none, Bool.false_eq_true, if_false, List.getElem?_toArray]
            rw [List.getElem?_append_right (by omega), Nat.add_sub_cancel_left, List.getElem?_append_left hjl]; exact hj
        obtain ⟨v', w', hrun, hres⟩ := append_raw (w := w) (base := base) (ty := ty) (cap := cap) (ad := ad) hu hf k1 d2.length d2.ones hcells hp
        rw [← hz] at hrun
        have hσ : ∀ m, ({ σ with heap := fun n => findU ((d, .row (.deep tt2) (xs ++ ys)) :: killU [nm, nm2]) n (σ.heap n) } : St).heap m = if m = d then some (.row (.deep tt2) (xs ++ ys)) else if m ∈ [nm, nm2] then some .dead else σ.heap m := fun m => by
          simp only [findU, findU_kill]
          by_cases he : m = d
          · subst he; simp
          · simp [nbeq_ne he, he]
        have hns : ∀ m ∈ [nm, nm2], ∃ t xs, σ.heap m = some (.row t xs) := fun m hm => by
          simp only [List.mem_cons, List.not_mem_nil, or_false] at hm
          rcases hm with rfl | rfl
          · exact ⟨_, _, hnm'⟩
          · exact ⟨_, _, hnm2'⟩
        have hdns : d ∉ [nm, nm2] := by simp [Ne.symm n1, Ne.symm n2]
        have key : ∀ (hsz : w.heap.size ≤ w'.heap.size), (∀ b, b < w.heap.size → ¬ Owns u b → w'.heap[b]? = w.heap[b]?) → (∀ b, blkOf v' = some b → Owns u b ∨ w.heap.size ≤ b) →
            ((∃ q n cp, v' = .slice q n cp)) → (((∃ a, v' = .slice a 0 0) ∧ (xs ++ ys : List tt2.den) = [] ∧ i1 ++ i2 = []) ∨ ∃ b cap vs' rest ty pre, v' = .slice (some ⟨b, List.length pre, none⟩) (xs ++ ys : List tt2.den).length cap ∧ base.own b ∧ w'.heap[b]? = some (.cells (List.toArray (pre ++ (vs' ++ rest))) ty (0, 0)) ∧
              vs' = vs ++ us ∧ vs'.length + rest.length = cap * tt2.size ∧ (xs ++ ys : List tt2.den).length ≤ cap ∧ 0 < cap) → ∃ ref', RepAt base { σ with heap := fun n => findU ((d, .row (.deep tt2) (xs ++ ys)) :: killU [nm, nm2]) n (σ.heap n) } a w' ref' ∧ Den (cxOf base { σ with heap := fun n => findU ((d, .row (.deep tt2) (xs ++ ys)) :: killU [nm, nm2]) n (σ.heap n) } w' ref') (.row d) v' := by
          intro hsz hblk hvb hvs hB
          have hO : ∀ b, Owns u b → blkOf u = some b := fun b hb => by
            rcases k1 with ⟨⟨a0, h1⟩, _⟩ | ⟨b', cap, rest, tyy, pre, h1, _⟩ <;> (subst h1; exact hb)
          have hgrp := hrep.regroup (d := d) (ns := [nm, nm2]) (B' := .row (.deep tt2) (xs ++ ys)) (u := .tuple (List.toArray (v' :: (i1 ++ i2)))) (w' := w') (dst_ne hrep hdk)
            (.inl hdn) hns hdns hσ rfl rfl hsz (fun b hb _ hn => hblk b hb fun hx => hn nm (by simp) (o1 u (by simp) b (hO b hx))) (fun b hb => by
              obtain ⟨q, hq, e⟩ := hb
              have hq : q ∈ v' :: (i1 ++ i2) := hq
              rcases List.mem_cons.1 hq with rfl | hq
              · rcases hvb b e with hx | hx
                · exact .inr (.inl ⟨nm, by simp, o1 u (by simp) b (hO b hx)⟩)
                · exact .inr (.inr hx)
              · rcases List.mem_append.1 hq with hq | hq
                · exact .inr (.inl ⟨nm, by simp, o1 q (by simp [hq]) b e⟩)
                · exact .inr (.inl ⟨nm2, by simp, o2 q (by simp [hq]) b e⟩)) (fun _ => by
              show DeepRow _ base _ tt2 (xs ++ ys)
              refine ⟨_, _, rfl, List.pairwise_cons.2 ⟨fun q hq b e e' => ?_, List.pairwise_append.2 ⟨q2, q4, fun v hv v' hv' b e => o12 v (by simp [hv]) v' (by simp [hv']) b e⟩⟩, hB.imp id ?_⟩
              · rcases List.mem_append.1 hq with hq | hq
                · rcases hvb b e with hx | hx
                  · exact q1 q hq b (hO b hx) e'
                  · have := l1 q (by simp [hq]) b e'; omega
                · rcases hvb b e with hx | hx
                  · exact o12 u (by simp) q (by simp [hq]) b (hO b hx) e'
                  · have := l2 q (by simp [hq]) b e'; omega
              · rintro ⟨b, cap, vs', rest, tyy, pre, g1, g2, g3, rfl, g4⟩
                refine ⟨b, cap, _, rest, tyy, pre, g1, g2, g3, DeepAt.append (d1.go fun q hq b e => ⟨id, hblk b (l1 q (by simp [hq]) b e) fun hx => q1 q hq b (hO b hx) e⟩) (d2.go fun q hq b e => ⟨id, hblk b (l2 q (by simp [hq]) b e) fun hx => o12 u (by simp) q (by simp [hq]) b (hO b hx) e⟩), g4⟩)
          exact ⟨_, hgrp.1, ⟨_, by rw [hσ, if_pos rfl]⟩, by simp [cxOf, headV], hvs⟩
        rcases hres with ⟨hv', hvv, rfl, hnil⟩ | ⟨b, cap', rest, tyy, pre, hv', hheap, hl', hle', hsz, hwhere⟩
        · have hx0 : xs = [] := List.eq_nil_of_length_eq_zero (by omega)
          have hy0 : ys = [] := List.eq_nil_of_length_eq_zero (by omega)
          obtain ⟨ref', g1, g2⟩ := key (Nat.le_refl _) (fun _ _ _ => rfl) (fun b e => by obtain ⟨a0, rfl⟩ := hv'; exact (owns_zero (show Owns _ b from e)).elim) (by obtain ⟨a0, h⟩ := hv'; exact ⟨_, _, _, h⟩) (.inl ⟨hv', by rw [hx0, hy0]; rfl, by subst hx0 hy0; rw [d1.2, d2.2]; rfl⟩)
          exact ⟨v', w', ref', hrun, hbel, hbase, g1, g2, by simp⟩
        · have hcap : (xs ++ ys : List tt2.den).length = @List.length tt2.den xs + @List.length tt2.den ys := List.length_append
          have fin : base.own b → (∀ b', b' < w.heap.size → ¬ Owns u b' → w'.heap[b']? = w.heap[b']?) → (Owns u b ∨ w.heap.size ≤ b) → _ := fun h1 h2 h3 =>
            key hsz h2 (fun b' e => by rw [hv'] at e; have e := owns_slice (b := b') e; simp only at e; exact e ▸ h3) ⟨_, _, _, hv'⟩ (.inr ⟨b, cap', _, rest, tyy, pre, by rw [hcap]; exact hv', h1, hheap, rfl, hl', by rw [hcap]; exact hle'.1, hle'.2⟩)
          rcases hwhere with ⟨hblk, hge, o, hw⟩ | ⟨rfl, o, rfl⟩
          · obtain ⟨ref', g1, g2⟩ := fin hge (fun b' hb' hne => hw.other b' (by rintro rfl; exact hne hblk)) (.inl hblk)
            exact ⟨v', w', ref', hrun, hw.below hbel hge, by rw [hw.size]; exact hbase, g1, g2, by simp⟩
          · obtain ⟨ref', g1, g2⟩ := fin (.inl hbase) (fun b' hb' _ => Below.heap_alloc w.drew _ _ hb') (.inr (Nat.le_refl _))
            exact ⟨v', _, ref', hrun, hbel.drew.alloc hbase _, Nat.le_trans hbase hsz, g1, g2, by simp⟩
      · simp at hr
    · simp at hr
  · simp at hr
/-! ### one cell of an element -/
theorem sp1_left {α : Type} {l1 l2 : List α} {off : Nat} {u : α} (h : off < l1.length) : sp1 (l1 ++ l2) off u = sp1 l1 off u ++ l2 := by
  simp only [sp1]
  rw [List.take_append_of_le_length (by omega), List.drop_append_of_le_length (by omega)]
  simp
theorem sp1_right {α : Type} {l1 l2 : List α} {off : Nat} {u : α} (h : l1.length ≤ off) : sp1 (l1 ++ l2) off u = l1 ++ sp1 l2 (off - l1.length) u := by
  simp only [sp1]
  rw [List.take_append, List.take_of_length_le h, List.drop_append, List.drop_of_length_le (by omega)]
  rw [show off + 1 - l1.length = off - l1.length + 1 by omega]
  simp
theorem sp1_length {α : Type} {l : List α} {off : Nat} {u : α} (h : off < l.length) : (sp1 l off u).length = l.length := by
  simp [sp1]; omega
theorem decT_enc : ∀ (t : Ty) (x : t.den), decT t (enc t x) = some x
  | .int k, x => by simp [decT, enc, decI]
  | .bool, x => by simp [decT, enc, decB]
  | .str, x => by simp [decT, enc, decS]
  | .seq t, x => by simp [decT, enc, decQ, castT]
  | .deep t, x => decT_enc t x
  | .pair a b, x => by
    simp only [decT, enc]
    rw [← enc_length a x.1, List.take_left, List.drop_left, decT_enc a, decT_enc b]
/-- A cell that is no row, set anew. -/
theorem DeepR.put : ∀ {t : Ty} {x y : t.den} {vs ins : List Value} {off : Nat} {u : AV} {z : Value}, DeepR c base t x vs ins → off < t.size → flat1 u = true → Den c u z → decT t (sp1 (enc t x) off u) = some y → DeepR c base t y (sp1 vs off z) ins
  | .int k, x, y, vs, ins, off, u, z, h, ho, hf, hd, hy => by
    obtain ⟨rfl, rfl⟩ := h
    have h0 : off = 0 := by simp only [Ty.size] at ho; omega
    subst h0
    exact ⟨den_reads (decT_den (t := .int k) hy ⟨z, [], rfl, hd, rfl⟩), rfl⟩
  | .bool, x, y, vs, ins, off, u, z, h, ho, hf, hd, hy => by
    obtain ⟨rfl, rfl⟩ := h
    have h0 : off = 0 := by simp only [Ty.size] at ho; omega
    subst h0
    exact ⟨den_reads (decT_den (t := .bool) hy ⟨z, [], rfl, hd, rfl⟩), rfl⟩
  | .str, x, y, vs, ins, off, u, z, h, ho, hf, hd, hy => by
    obtain ⟨rfl, rfl⟩ := h
    have h0 : off = 0 := by simp only [Ty.size] at ho; omega
    subst h0
    exact ⟨den_reads (decT_den (t := .str) hy ⟨z, [], rfl, hd, rfl⟩), rfl⟩
  | .seq t, x, y, vs, ins, off, u, z, h, ho, hf, hd, hy => by
    have h0 : off = 0 := by simp only [Ty.size] at ho; omega
    subst h0
    exfalso
    have hy : decQ t [u] = some y := hy
    cases u <;> first | (simp [flat1] at hf; done) | (simp [decQ] at hy; done)
  | .deep _, _, _, _, _, _, _, _, h, _, _, _, _ => h.elim
  | .pair a b, x, y, vs, ins, off, u, z, h, ho, hf, hd, hy => by
    obtain ⟨v1, v2, i1, i2, rfl, rfl, h1, h2⟩ := h
    have l1 := enc_length a x.1
    have k1 := h1.length
    simp only [decT, enc] at hy
    rcases Nat.lt_or_ge off a.size with hlt | hge
    · rw [sp1_left (by omega)] at hy
      have hl := sp1_length (u := u) (l := enc a x.1) (off := off) (by omega)
      rw [show a.size = (sp1 (enc a x.1) off u).length by omega, List.take_left, List.drop_left, decT_enc] at hy
      split at hy
      · rename_i y1 y2 e1 e2
        simp only [Option.some.injEq] at hy e2
        subst hy e2
        rw [sp1_left (by omega)]
        exact ⟨_, v2, i1, i2, rfl, rfl, h1.put hlt hf hd e1, h2⟩
      · simp at hy
    · rw [sp1_right (by omega), l1] at hy
      rw [← l1, List.take_left, List.drop_left, l1, decT_enc] at hy
      split at hy
      · rename_i y1 y2 e1 e2
        simp only [Option.some.injEq] at hy e1
        subst hy e1
        rw [sp1_right (by omega), k1]
        exact ⟨v1, _, i1, i2, rfl, rfl, h1, h2.put (by simp only [Ty.size] at ho; omega) hf hd e2⟩
      · simp at hy
/-- A row within an element, and what is left when it is another one. -/
theorem DeepR.inner : ∀ {t : Ty} {x : t.den} {vs ins : List Value} {off : Nat} {e : Ty} {l : List e.den}, DeepR c base t x vs ins → (enc t x)[off]? = some (.view e l) →
    ∃ ia u ic, ins = ia ++ (u :: ic) ∧ vs[off]? = some u ∧ e.flat = true ∧ RowOld c base u e l ∧
      ∀ (c' : Cx) (base' : Base) (ys : List e.den) (y : t.den), (∀ u' ∈ ia ++ ic, ∀ b, blkOf u' = some b → (base.own b → base'.own b) ∧ c'.w.heap[b]? = c.w.heap[b]?) → RowOld c' base' u e ys → decT t (sp1 (enc t x) off (.view e ys)) = some y → DeepR c' base' t y vs ins
  | .int k, x, vs, ins, off, e, l, h, he => by
    simp only [enc, List.getElem?_singleton] at he
    split at he <;> simp at he
  | .bool, x, vs, ins, off, e, l, h, he => by
    simp only [enc, List.getElem?_singleton] at he
    split at he <;> simp at he
  | .str, x, vs, ins, off, e, l, h, he => by
    simp only [enc, List.getElem?_singleton] at he
    split at he <;> simp at he
  | .seq t, x, vs, ins, off, e, l, h, he => by
    simp only [enc, List.getElem?_singleton] at he
    split at he
    · rename_i h0
      simp only [Option.some.injEq, AV.view.injEq] at he
      obtain ⟨rfl, he⟩ := he
      have he := eq_of_heq he
      subst he
      subst h0
      obtain ⟨v, rfl, rfl, hf, hr⟩ := h
      refine ⟨[], v, [], rfl, rfl, hf, hr, fun c' base' ys y _ hr' hy => ?_⟩
      have hy : decQ t [.view t ys] = some y := hy
      simp only [decQ, castT, dite_true, Option.some.injEq] at hy
      subst hy
      exact ⟨v, rfl, rfl, hf, hr'⟩
    · simp at he
  | .deep _, _, _, _, _, _, _, h, _ => h.elim
  | .pair a b, x, vs, ins, off, e, l, h, he => by
    obtain ⟨v1, v2, i1, i2, rfl, rfl, h1, h2⟩ := h
    have l1 := enc_length a x.1
    have k1 := h1.length
    simp only [enc] at he
    rcases Nat.lt_or_ge off a.size with hlt | hge
    · rw [List.getElem?_append_left (by omega)] at he
      obtain ⟨ia, u, ic, rfl, g1, g2, g3, g4⟩ := h1.inner he
      refine ⟨ia, u, ic ++ i2, by simp, by rw [List.getElem?_append_left (by omega)]; exact g1, g2, g3, fun c' base' ys y hm hr hy => ?_⟩
      simp only [decT, enc] at hy
      rw [sp1_left (by omega)] at hy
      have hl := sp1_length (u := AV.view e ys) (l := enc a x.1) (off := off) (by omega)
      rw [show a.size = (sp1 (enc a x.1) off (AV.view e ys)).length by omega, List.take_left, List.drop_left, decT_enc] at hy
      split at hy
      · rename_i y1 y2 e1 e2
        simp only [Option.some.injEq] at hy e2
        subst hy e2
        refine ⟨v1, v2, _, i2, rfl, rfl, g4 c' base' ys y1 (fun u' hu' => hm u' ?_) hr e1, h2.move fun u' hu' => hm u' (by simp [hu'])⟩
        rcases List.mem_append.1 hu' with h | h <;> simp [h]
      · simp at hy
    · rw [List.getElem?_append_right (by omega), l1] at he
      obtain ⟨ia, u, ic, rfl, g1, g2, g3, g4⟩ := h2.inner he
      refine ⟨i1 ++ ia, u, ic, by simp, by rw [List.getElem?_append_right (by omega), k1]; exact g1, g2, g3, fun c' base' ys y hm hr hy => ?_⟩
      simp only [decT, enc] at hy
      rw [sp1_right (by omega), l1] at hy
      rw [← l1, List.take_left, List.drop_left, l1, decT_enc] at hy
      split at hy
      · rename_i y1 y2 e1 e2
        simp only [Option.some.injEq] at hy e1
        subst hy e1
        refine ⟨v1, v2, i1, _, rfl, rfl, h1.move fun u' hu' => hm u' (by simp [hu']), g4 c' base' ys y2 (fun u' hu' => hm u' ?_) hr e2⟩
        rcases List.mem_append.1 hu' with h | h <;> simp [h]
      · simp at hy
theorem DeepR.rows : ∀ {t : Ty} {x : t.den} {vs ins : List Value}, DeepR c base t x vs ins → ins.length = nIn t
  | .int _, _, _, _, h => by rw [h.2]; rfl
  | .bool, _, _, _, h => by rw [h.2]; rfl
  | .str, _, _, _, h => by rw [h.2]; rfl
  | .pair a b, x, _, _, h => by
    obtain ⟨v1, v2, i1, i2, rfl, rfl, h1, h2⟩ := h
    rw [List.length_append, h1.rows, h2.rows]; rfl
  | .seq t, _, _, _, h => by obtain ⟨v, _, rfl, _⟩ := h; rfl
  | .deep _, _, _, _, h => h.elim
theorem DeepAt.modify {t : Ty} : ∀ {xs : List t.den} {i : Nat} {vs ins : List Value}, i < xs.length → DeepAt c base t xs vs ins →
    ∃ va vb vc ia ib ic, vs = va ++ (vb ++ vc) ∧ ins = ia ++ (ib ++ ic) ∧ va.length = i * t.size ∧ ia.length = i * nIn t ∧ DeepR c base t (xs.getD i t.zero) vb ib ∧
      ∀ (c' : Cx) (base' : Base), (∀ u' ∈ ia ++ ic, ∀ b, blkOf u' = some b → (base.own b → base'.own b) ∧ c'.w.heap[b]? = c.w.heap[b]?) → ∀ (y : t.den) (vb' ib' : List Value), DeepR c' base' t y vb' ib' → DeepAt c' base' t (xs.set i y) (va ++ (vb' ++ vc)) (ia ++ (ib' ++ ic))
  | [], i, _, _, hi, _ => by simp at hi
  | x :: xs, 0, _, _, _, h => by
    obtain ⟨v1, v2, j1, j2, rfl, rfl, h1, h2⟩ := h
    exact ⟨[], v1, v2, [], j1, j2, rfl, rfl, by simp, by simp, h1, fun c' base' hm y vb' ib' hR => ⟨vb', v2, ib', j2, rfl, rfl, hR, h2.move fun u hu => hm u (by simpa using hu)⟩⟩
  | x :: xs, i + 1, _, _, hi, h => by
    obtain ⟨v1, v2, j1, j2, rfl, rfl, h1, h2⟩ := h
    obtain ⟨va, vb, vc, ia, ib, ic, rfl, rfl, hl, hil, hR, hk⟩ := DeepAt.modify (i := i) (by simpa using hi) h2
    have hl1 := h1.length
    refine ⟨v1 ++ va, vb, vc, j1 ++ ia, ib, ic, by simp, by simp, by rw [List.length_append, hl, hl1, Nat.succ_mul]; omega, by rw [List.length_append, hil, h1.rows, Nat.succ_mul]; omega, by simpa using hR, fun c' base' hm y vb' ib' hR' => ?_⟩
    refine ⟨v1, _, j1, _, by rw [List.append_assoc], by rw [List.append_assoc], h1.move fun u hu => hm u (by simp [hu]), hk c' base' (fun u hu => hm u ?_) y vb' ib' hR'⟩
    rcases List.mem_append.1 hu with h | h <;> simp [h]
theorem storeD1_sound {h : Nat → Option Blk} {t : TypeId} {x v : AV} {r : Res} {u z : Value} (hrep : RepAt base σ a w ref) (hsub : ∀ n B, h n = some B → B.live = true → σ.heap n = some B) (hr : resStoreD1 P h t x v = some r)
    (hp : r.need.ok) (hx : Den (cxOf base σ w ref) x u) (hv : Den (cxOf base σ w ref) v z) :
    ∃ w' b o ref', (Instr.storeAt t u z).run P w = .ok () w' ∧ Wrote w w' b o ∧ base.own b ∧ RepAt base { σ with heap := fun n => findU r.upd n (σ.heap n) } a w' ref' ∧ r.val = .undef ∧ r.upd ≠ [] := by
  unfold resStoreD1 at hr
  split at hr
  · rename_i sz nm i off n hs
    split at hr
    · rename_i ty xs hnm
      cases hb : (Nat.beq sz ty.size && (Nat.beq n 1 && (Nat.ble (off + 1) ty.size && flat1 v))) <;> rw [hb] at hr <;> simp only [cond_true, cond_false, reduceCtorEq] at hr
      simp only [Bool.and_eq_true, Nat.ble_eq] at hb
      obtain ⟨b1, b2, b3, b4⟩ := hb
      have e4 : sz = ty.size := Nat.eq_of_beq_eq_true b1
      have e2 : n = 1 := Nat.eq_of_beq_eq_true b2
      subst e4 e2
      split at hr
      · rename_i y hy
        simp only [Option.some.injEq] at hr
        subst hr
        have hset : setC ty xs i off [v] = @List.set ty.den xs i y := by simp only [setC, putC, hy]
        rw [hset]
        have hp : i < @List.length ty.den xs := hp
        have hnm' := hsub _ _ hnm rfl
        obtain ⟨_, b, o, n', cap, hb, rfl⟩ := hx
        obtain ⟨s, ins, hrv, hpr, hdp⟩ := (show DeepRow (cxOf base σ w ref) base (ref nm) ty xs from hrep.blk _ _ hnm')
        have hb : headV (ref nm) = .slice (some ⟨b, o, none⟩) n' cap := hb
        rw [hrv] at hb
        have hb : s = .slice (some ⟨b, o, none⟩) n' cap := hb
        rcases hdp with ⟨_, rfl, _⟩ | ⟨b', cap', vs, rest, tyy, pre, hv', hge, hheap, hrow, hlen, hle, hpos⟩
        · simp at hp
        rw [hb] at hv'
        simp only [Value.slice.injEq, Option.some.injEq, Addr.mk.injEq, and_true] at hv'
        obtain ⟨⟨rfl, rfl⟩, rfl, rfl⟩ := hv'
        have hvl := hrow.length
        have hin : i * ty.size + ty.size ≤ vs.length := by
          rw [hvl, ← Nat.succ_mul]; exact Nat.mul_le_mul_right _ hp
        have hone : z.oneCell' = true ∧ z.cells.toList = [z] := by
          cases v <;> first | (simp [flat1] at b4; done) | (have hv : z = _ := hv; subst hv; exact ⟨rfl, rfl⟩)
        obtain ⟨w', hrun, hw⟩ := storeCells_wrote (P := P) (off := List.length pre + (i * ty.size + off)) [z] 0 (pre ++ (vs ++ rest)) w hheap (by simpa using hone.1) (by simp; omega)
        have harr : (pre ++ (vs ++ rest)).take (List.length pre + (i * ty.size + off) + 0) ++ [z] ++ (pre ++ (vs ++ rest)).drop (List.length pre + (i * ty.size + off) + 0 + [z].length) = pre ++ ((vs.take (i * ty.size + off) ++ [z] ++ vs.drop (i * ty.size + off + [z].length)) ++ rest) := by
          exact pre_splice pre vs rest [z] _ (by simp; omega)
        rw [harr] at hw
        have hsb : blkOf s = some b := by rw [hb]; exact owns_some hpos
        obtain ⟨hpr1, hpr2⟩ := List.pairwise_cons.1 hpr
        have hob : Owns (ref nm) b := by rw [hrv]; exact ⟨s, by simp, hsb⟩
        refine ⟨w', b, _, ref, ?_, hw, hge, ?_, rfl, by simp⟩
        · have hz' : z.cells.size = 1 := by rw [← Array.length_toList, hone.2]; rfl
          simp only [Instr.storeAt, Instr.sureAddr, storeVar, Sem.run_bind, Sem.run_pure, Result.andThen_ok, size_run hs, hz', ne_eq, not_true, if_false, hone.2]
          exact hrun
        · refine (hrep.wrote (σ' := { σ with heap := fun n => findU [(nm, .row (.deep ty) (@List.set ty.den xs i y))] n (σ.heap n) }) (B := .row (.deep ty) xs) (B' := .row (.deep ty) (@List.set ty.den xs i y)) (nm := nm) hnm' rfl hob rfl (fun m => ?_) rfl rfl hw (fun hle' => ?_)).1
          · simp only [findU]
            by_cases he : m = nm
            · subst he; simp
            · simp [nbeq_ne he, he]
          · show DeepRow _ base (ref nm) ty (@List.set ty.den xs i y)
            have hmv : ∀ u ∈ ins, ∀ b', blkOf u = some b' → (base.own b' → base.own b') ∧ w'.heap[b']? = w.heap[b']? := fun u hu b' e => ⟨id, hw.other b' fun he => hpr1 u hu b hsb (he ▸ e)⟩
            obtain ⟨va, vb, vc, ia, ib, ic, rfl, rfl, hl, _, hR, hk⟩ := DeepAt.modify (t := ty) (xs := xs) hp hrow
            have hbl := hR.length
            have hcel : (va ++ (vb ++ vc)).take (i * ty.size + off) ++ [z] ++ (va ++ (vb ++ vc)).drop (i * ty.size + off + [z].length) = va ++ (sp1 vb off z ++ vc) := by
              have e1 : sp1 (va ++ (vb ++ vc)) (i * ty.size + off) z = va ++ (sp1 vb off z ++ vc) := by
                rw [sp1_right (by omega), hl, Nat.add_sub_cancel_left, sp1_left (by omega)]
              exact e1
            have hR' := (hR.move (c' := cxOf base { σ with heap := fun n => findU [(nm, .row (.deep ty) (@List.set ty.den xs i y))] n (σ.heap n) } w' ref) (B' := base) fun u hu => hmv u (by simp [hu])).put (off := off) (z := z) (by omega) b4 (by
              cases v <;> first | (simp [flat1] at b4; done) | exact hv) hy
            refine ⟨s, _, hrv, hpr, .inr ⟨b, cap, _, rest, tyy, pre, by rw [List.length_set]; exact hb, hge, ?_, hk _ base (fun u hu => hmv u ?_) y _ _ hR', ?_, by rw [List.length_set]; exact hle, hpos⟩⟩
            · have := hw.here
              rw [hcel] at this
              exact this
            · rcases List.mem_append.1 hu with h | h <;> simp [h]
            · have := sp1_length (l := vb) (off := off) (u := z) (by omega)
              simp only [List.length_append] at hlen ⊢
              omega
      · simp at hr
    · simp at hr
  · simp at hr
theorem lenD_sound {h : Nat → Option Blk} {t ty : TypeId} {ts : Array TypeId} {x v : AV} {p : Nd} {u : Value} (hc : ∀ b, c.ok b → b < c.w.heap.size) (hh : ∀ n B, h n = some B → BlkDen c base (c.ref n) B) (ht : ts[0]? = some t) (hr : resLenD P h t x = some (p, v)) (hx : Den c x u) :
    ∃ r, (Builtin.len_ ts ty #[u]).run P w = .ok r w ∧ Den c v r := by
  unfold resLenD at hr
  split at hr
  · rename_i hu
    split at hr
    · rename_i e xs hnm
      simp only [Option.some.injEq, Prod.mk.injEq] at hr
      obtain ⟨rfl, rfl⟩ := hr
      obtain ⟨_, rfl, _⟩ := hx
      rcases (hh _ _ hnm).hdV hc with ⟨⟨a, hv⟩, rfl⟩ | ⟨b', cap', vs, rest, ty, pre, hv, _⟩
      · rw [hv]; exact ⟨.int .i64 (0 : Int), by unfold Builtin.len_; simp [ht, Go.underlying, hu, goInt], rfl⟩
      · rw [hv]; exact ⟨.int .i64 (xs.length : Int), by unfold Builtin.len_; simp [ht, Go.underlying, hu, goInt], rfl⟩
    · simp at hr
  · simp at hr
/-- The row in an element of a row of rows: which one, and what is left when it is another one. -/
theorem DeepRow.inner {v : Value} {t e : Ty} {xs : List t.den} {l : List e.den} {i off : Nat} (h : DeepRow c base v t xs) (hi : i < xs.length) (hn : nIn t = 1) (hel : (enc t (xs.getD i t.zero))[off]? = some (.view e l)) :
    ∃ s ins u b cap vs rest ty pre, v = .tuple (List.toArray (s :: ins)) ∧ ins[i]? = some u ∧ s = .slice (some ⟨b, List.length pre, none⟩) xs.length cap ∧
      c.w.heap[b]? = some (.cells (List.toArray (pre ++ (vs ++ rest))) ty (0, 0)) ∧ vs[i * t.size + off]? = some u ∧ e.flat = true ∧ RowOld c base u e l ∧
      ∀ (c' : Cx) (base' : Base) (ys : List e.den) (y : t.den), (∀ u' ∈ s :: ins, ∀ b, blkOf u' = some b → blkOf u ≠ some b → (base.own b → base'.own b) ∧ c'.w.heap[b]? = c.w.heap[b]?) → RowOld c' base' u e ys → decT t (sp1 (enc t (xs.getD i t.zero)) off (.view e ys)) = some y → DeepRow c' base' v t (xs.set i y) := by
  obtain ⟨s, ins, rfl, hpr, hdp⟩ := h
  rcases hdp with ⟨_, rfl, _⟩ | ⟨b, cap, vs, rest, tyy, pre, hs, hge, hheap, hrow, hlen, hle, hpos⟩
  · simp at hi
  obtain ⟨va, vb, vc, ia, ib, ic, rfl, rfl, hl, hil, hR, hk⟩ := hrow.modify hi
  obtain ⟨ja, u, jc, rfl, hcell, hflat, hold, hput⟩ := hR.inner hel
  have hone := hR.rows
  rw [hn] at hone
  simp only [List.length_append, List.length_cons] at hone
  obtain rfl : ja = [] := List.eq_nil_of_length_eq_zero (by omega)
  obtain rfl : jc = [] := List.eq_nil_of_length_eq_zero (by omega)
  have hbl := hR.length
  have hoff : off < vb.length := by
    rcases Nat.lt_or_ge off vb.length with h | h
    · exact h
    · rw [List.getElem?_eq_none h] at hcell; simp at hcell
  rw [hn, Nat.mul_one] at hil
  obtain ⟨p1, p2⟩ := List.pairwise_cons.1 hpr
  obtain ⟨q1, q2, q3⟩ := List.pairwise_append.1 p2
  obtain ⟨r1, r2, r3⟩ := List.pairwise_append.1 q2
  have hu : ∀ u' ∈ ia ++ ic, ∀ b, blkOf u' = some b → blkOf u ≠ some b := fun u' hu' b e => by
    rcases List.mem_append.1 hu' with h | h
    · exact q3 u' h u (by simp) b e
    · exact fun e' => r3 u (by simp) u' h b e' e
  refine ⟨s, _, u, b, cap, _, rest, tyy, pre, rfl, ?_, hs, hheap, ?_, hflat, hold, fun c' base' ys y hm hr hy => ?_⟩
  · rw [List.getElem?_append_right (by omega), hil, Nat.sub_self]; rfl
  · rw [List.getElem?_append_right (by omega), hl, Nat.add_sub_cancel_left, List.getElem?_append_left hoff]; exact hcell
  · have hsb : blkOf s = some b := by rw [hs]; exact owns_some (a := ⟨b, List.length pre, none⟩) hpos
    have hsm := hm s (by simp) b hsb (p1 u (by simp) b hsb)
    have hmv : ∀ u' ∈ ia ++ ic, ∀ b, blkOf u' = some b → (base.own b → base'.own b) ∧ c'.w.heap[b]? = c.w.heap[b]? := fun u' hu' b e => by
      refine hm u' ?_ b e (hu u' hu' b e)
      rcases List.mem_append.1 hu' with h | h <;> simp [h]
    have hR' := hput c' base' ys y (fun u' hu' => by simp at hu') hr hy
    refine ⟨s, _, rfl, hpr, .inr ⟨b, cap, _, rest, tyy, pre, by rw [List.length_set]; exact hs, hsm.1 hge, hsm.2.trans hheap, hk c' base' hmv y _ _ hR', hlen, by rw [List.length_set]; exact hle, hpos⟩⟩
theorem loadD_sound {h : Nat → Option Blk} {t : TypeId} {x v : AV} {p : Nd} {u : Value} (hw : c.w = w) (hh : ∀ n B, h n = some B → BlkDen c base (c.ref n) B) (hr : resLoadD P h t x = some (p, v)) (hp : p.ok) (hx : Den c x u) :
    ∃ r, (Instr.loadAt t u).run P w = .ok r w ∧ Den c v r := by
  unfold resLoadD at hr
  split at hr
  · rename_i n sz nm i off ha
    obtain ⟨ha1, ha2⟩ := aggOf_run (w := w) ha
    cases hb0 : Nat.beq nm 700000 <;> rw [hb0] at hr <;> simp only [cond_true, cond_false, reduceCtorEq] at hr
    have e0 : nm = 700000 := Nat.eq_of_beq_eq_true hb0
    subst e0
    split at hr
    · rename_i ty xs hnm
      cases hb : (Nat.beq sz ty.size && Nat.beq (nIn ty) 1) <;> rw [hb] at hr <;> simp only [cond_true, cond_false, reduceCtorEq] at hr
      simp only [Bool.and_eq_true] at hb
      obtain ⟨b1, b2⟩ := hb
      have e1 : sz = ty.size := Nat.eq_of_beq_eq_true b1
      have e2 : nIn ty = 1 := Nat.eq_of_beq_eq_true b2
      subst e1
      split at hr
      · rename_i e l hel
        simp only [Option.some.injEq, Prod.mk.injEq] at hr
        obtain ⟨rfl, rfl⟩ := hr
        have hp : i < @List.length ty.den xs := hp
        obtain ⟨hdom, b, o, n', cap, hb, rfl⟩ := hx
        obtain ⟨s, ins, u, b', cap', vs, rest, tyy, pre, hrv, hin, hs, hheap, hcell, _, hold, _⟩ := (show DeepRow c base (c.ref 700000) ty xs from hh _ _ hnm).inner hp e2 hel
        rw [hrv] at hb
        have hb : s = .slice (some ⟨b, o, none⟩) n' cap := hb
        rw [hb] at hs
        simp only [Value.slice.injEq, Option.some.injEq, Addr.mk.injEq, and_true] at hs
        obtain ⟨⟨rfl, rfl⟩, rfl, rfl⟩ := hs
        obtain ⟨a1, n1, c1, hu⟩ := hold.slice
        have hlt : i * ty.size + off < vs.length := by
          rcases Nat.lt_or_ge (i * ty.size + off) vs.length with h | h
          · exact h
          · rw [List.getElem?_eq_none h] at hcell; simp at hcell
        have hc0 : w.cell? ⟨b, List.length pre + (i * ty.size + off), none⟩ = some u := by
          rw [← hw]
          simp only [World.cell?, hheap, Option.isSome_none, Bool.false_eq_true, if_false, List.getElem?_toArray]
          rw [List.getElem?_append_right (by omega), Nat.add_sub_cancel_left, List.getElem?_append_left hlt]
          exact hcell
        exact ⟨u, by simp [Instr.loadAt, Instr.sureAddr, loadVar, ha1, hc0], hdom, s, ins, a1, n1, c1, hrv, hin, hu⟩
      · simp at hr
    · simp at hr
  · simp at hr
end
end Sx
end Go.Proofs.Ytemlpimibhijoaa
