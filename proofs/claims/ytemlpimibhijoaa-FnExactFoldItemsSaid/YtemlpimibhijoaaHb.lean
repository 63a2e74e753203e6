/- Contracts: valid items, of the program and the reference; the law. Conditions: as each says. -/
import Derived.Test.YtemlpimibhijoaaHa
set_option linter.unusedSimpArgs false
set_option linter.unusedVariables false
namespace Go.Proofs.Ytemlpimibhijoaa
open Go.RowKit Sx
set_option maxRecDepth 100000
set_option maxHeartbeats 1000000
def grpB (x : tItem.den) : Bool := decide ((x.1 : Int) = 4) || decide ((x.1 : Int) = 5)
def szB (x : tItem.den) : Int := x.2.2.2.2.2
def itSx (x : tItem.den) : Bool := itS x.1 x.2.1 x.2.2.1.1 x.2.2.1.2 x.2.2.2.1 x.2.2.2.2.1.1 x.2.2.2.2.1.2 x.2.2.2.2.2
def itIx (x : tItem.den) : Bool := itI x.1 x.2.1 x.2.2.1.1 x.2.2.1.2 x.2.2.2.1 x.2.2.2.2.1.1 x.2.2.2.2.1.2 x.2.2.2.2.2
theorem itIx_eq (x : tItem.den) : itIx x = (itSx x && (!grpB x || decide (1 ≤ szB x))) := rfl
theorem grp_sz {x : tItem.den} (h : itIx x = true) (hg : grpB x = true) : 1 ≤ szB x := by
  rw [itIx_eq, hg] at h; simpa using (Bool.and_eq_true_iff.1 h).2
def nstF : Nat → List tItem.den → Int → Bool
  | 0, _, _ => true
  | _ + 1, [], _ => true
  | n + 1, x :: t, g => if grpB x = true then (decide (szB x ≤ (t.length : Int)) && ((if 3 < g + 1 then decide (t.take (szB x).toNat = []) else nstF n (t.take (szB x).toNat) (g + 1)) && nstF n (t.drop (szB x).toNat) g)) else nstF n t g
theorem nst_fuel : ∀ (n m : Nat) (l : List tItem.den) (g : Int), l.length ≤ n → l.length ≤ m → nstF n l g = nstF m l g
  | 0, m, l, g, h, _ => by
    have : l = [] := List.eq_nil_of_length_eq_zero (by omega)
    subst this
    cases m <;> rfl
  | n + 1, 0, l, g, _, h => by
    have : l = [] := List.eq_nil_of_length_eq_zero (by omega)
    subst this; rfl
  | n + 1, m + 1, [], g, _, _ => rfl
  | n + 1, m + 1, x :: t, g, h1, h2 => by
    simp only [List.length_cons] at h1 h2
    have l1 : (t.take (szB x).toNat).length ≤ t.length := by simp; omega
    have l2 : (t.drop (szB x).toNat).length ≤ t.length := by simp
    simp only [nstF]
    rw [nst_fuel n m (t.take (szB x).toNat) (g + 1) (by omega) (by omega), nst_fuel n m (t.drop (szB x).toNat) g (by omega) (by omega), nst_fuel n m t g (by omega) (by omega)]
def nestV (l : List tItem.den) (g : Int) : Bool := if 3 < g then decide (l = []) else nstF l.length l g
theorem cut_eq (l : List tItem.den) (i : Nat) (s : Nat) : cutL l ((i + 1 : Nat) : Int) ((i + 1 + s : Nat) : Int) = (l.drop (i + 1)).take s := by
  unfold cutL
  rw [Int.toNat_natCast, Int.toNat_natCast, List.drop_take]
  congr 1; omega
theorem nst_step (l : List tItem.den) (i : Nat) (g : Int) (h : i < l.length) : nstF (l.length - i) (l.drop i) g = if grpB (l.getD i tItem.zero) = true then (decide (szB (l.getD i tItem.zero) ≤ (l.length : Int) - (i + 1)) && (nestV ((l.drop (i + 1)).take (szB (l.getD i tItem.zero)).toNat) (g + 1) && nstF (l.length - (i + 1 + (szB (l.getD i tItem.zero)).toNat)) (l.drop (i + 1 + (szB (l.getD i tItem.zero)).toNat)) g)) else nstF (l.length - (i + 1)) (l.drop (i + 1)) g := by
  rw [show l.length - i = (l.length - (i + 1)) + 1 by omega, List.drop_eq_getElem_cons h, getD_lt _ _ _ h]
  simp only [nstF, nestV, List.length_drop, List.drop_drop]
  have l1 : ((l.drop (i + 1)).take (szB l[i]).toNat).length ≤ l.length - (i + 1) := by simp; omega
  rw [nst_fuel (l.length - (i + 1)) ((l.drop (i + 1)).take (szB l[i]).toNat).length _ (g + 1) l1 (Nat.le_refl _)]
  rw [nst_fuel (l.length - (i + 1)) (l.length - (i + 1 + (szB l[i]).toNat)) (l.drop (i + 1 + (szB l[i]).toNat)) g (by simp; omega) (by simp)]
  rw [show ((l.length - (i + 1) : Nat) : Int) = (l.length : Int) - (i + 1) by omega]
def rngF : Nat → List tItem.den → Int → Bool
  | 0, _, _ => true
  | _ + 1, [], _ => true
  | n + 1, x :: t, d => itSx x && (if grpB x = true then (decide (d < 3) && (inB (szB x) 1 (t.length : Int) && (rngF n (t.take (szB x).toNat) (d + 1) && rngF n (t.drop (szB x).toNat) d))) else rngF n t d)
theorem rng_fuel : ∀ (n m : Nat) (l : List tItem.den) (g : Int), l.length ≤ n → l.length ≤ m → rngF n l g = rngF m l g
  | 0, m, l, g, h, _ => by
    have : l = [] := List.eq_nil_of_length_eq_zero (by omega)
    subst this
    cases m <;> rfl
  | n + 1, 0, l, g, _, h => by
    have : l = [] := List.eq_nil_of_length_eq_zero (by omega)
    subst this; rfl
  | n + 1, m + 1, [], g, _, _ => rfl
  | n + 1, m + 1, x :: t, g, h1, h2 => by
    simp only [List.length_cons] at h1 h2
    have l1 : (t.take (szB x).toNat).length ≤ t.length := by simp; omega
    have l2 : (t.drop (szB x).toNat).length ≤ t.length := by simp
    simp only [rngF]
    rw [rng_fuel n m (t.take (szB x).toNat) (g + 1) (by omega) (by omega), rng_fuel n m (t.drop (szB x).toNat) g (by omega) (by omega), rng_fuel n m t g (by omega) (by omega)]
/-- The part of a list from one index to another one. -/
def seg (l : List tItem.den) (f t : Nat) : List tItem.den := (l.take t).drop f
theorem seg_len (l : List tItem.den) {f t : Nat} (h : t ≤ l.length) : (seg l f t).length = t - f := by unfold seg; simp; omega
def rngV (l : List tItem.den) (f t : Nat) (d : Int) : Bool := rngF (t - f) (seg l f t) d
theorem seg_cons (l : List tItem.den) {f t : Nat} (h : f < t) (ht : t ≤ l.length) : seg l f t = l.getD f tItem.zero :: seg l (f + 1) t := by
  unfold seg
  rw [List.drop_eq_getElem_cons (by simp; omega), getD_lt _ _ _ (by omega)]
  simp
theorem seg_take (l : List tItem.den) {f t s : Nat} (h : f + s ≤ t) : (seg l f t).take s = seg l f (f + s) := by
  unfold seg
  rw [List.drop_take, List.take_take, List.drop_take]
  congr 1; omega
theorem seg_drop (l : List tItem.den) {f t s : Nat} : (seg l f t).drop s = seg l (f + s) t := by unfold seg; rw [List.drop_drop]
theorem rng_step (l : List tItem.den) (f t : Nat) (d : Int) (h : f < t) (ht : t ≤ l.length) : rngV l f t d = (itSx (l.getD f tItem.zero) && (if grpB (l.getD f tItem.zero) = true then (decide (d < 3) && (inB (szB (l.getD f tItem.zero)) 1 ((t : Int) - f - 1) && (rngV l (f + 1) (f + 1 + (szB (l.getD f tItem.zero)).toNat) (d + 1) && rngV l (f + 1 + (szB (l.getD f tItem.zero)).toNat) t d))) else rngV l (f + 1) t d)) := by
  unfold rngV
  rw [show t - f = (t - (f + 1)) + 1 by omega, seg_cons l h ht]
  simp only [rngF, seg_len l ht]
  rw [show ((t - (f + 1) : Nat) : Int) = (t : Int) - f - 1 by omega]
  cases hs : inB (szB (l.getD f tItem.zero)) 1 ((t : Int) - f - 1)
  · simp
  · have hb := (inB_iff _ _ _).1 hs
    rw [seg_take l (by omega), seg_drop l]
    rw [rng_fuel (t - (f + 1)) (f + 1 + (szB (l.getD f tItem.zero)).toNat - (f + 1)) (seg l (f + 1) (f + 1 + (szB (l.getD f tItem.zero)).toNat)) (d + 1) (by rw [seg_len l (by omega)]; omega) (by rw [seg_len l (by omega)]; omega)]
    rw [rng_fuel (t - (f + 1)) (t - (f + 1 + (szB (l.getD f tItem.zero)).toNat)) (seg l (f + 1 + (szB (l.getD f tItem.zero)).toNat) t) d (by rw [seg_len l ht]; omega) (by rw [seg_len l ht]; omega)]
theorem all_split {p : tItem.den → Bool} (l : List tItem.den) (k : Nat) : l.all p = ((l.take k).all p && (l.drop k).all p) := by
  rw [← List.all_append, List.take_append_drop]
/-- Both see the same lists as valid. -/
theorem valid_law : ∀ (n : Nat) (l : List tItem.den) (d : Int), l.length ≤ n → 0 ≤ d → d ≤ 3 → (l.all itIx && nstF n l d) = rngF n l d
  | 0, l, d, h, _, _ => by
    have : l = [] := List.eq_nil_of_length_eq_zero (by omega)
    subst this; rfl
  | n + 1, [], d, _, _, _ => rfl
  | n + 1, x :: t, d, h, h0, h3 => by
    simp only [List.length_cons] at h
    simp only [List.all_cons, nstF, rngF, itIx_eq]
    cases hg : grpB x
    · have ih := valid_law n t d (by omega) h0 h3
      rw [← ih]
      simp [Bool.and_assoc]
    · have l1 : (t.take (szB x).toNat).length ≤ n := by simp; omega
      have l2 : (t.drop (szB x).toNat).length ≤ n := by simp; omega
      have i2 := valid_law n (t.drop (szB x).toNat) d l2 h0 h3
      have sp := all_split (p := itIx) t (szB x).toNat
      have hin := inB_iff (szB x) 1 (t.length : Int)
      simp only [if_true, Bool.not_true, Bool.false_or]
      rw [sp, ← i2]
      by_cases hd : d < 3
      · have i1 := valid_law n (t.take (szB x).toNat) (d + 1) l1 (by omega) (by omega)
        rw [if_neg (by omega), decide_eq_true hd, ← i1]
        by_cases hs : 1 ≤ szB x ∧ szB x ≤ (t.length : Int)
        · rw [hin.2 hs, decide_eq_true hs.1, decide_eq_true hs.2]
          generalize itSx x = p1
          generalize (t.take (szB x).toNat).all itIx = p2
          generalize (t.drop (szB x).toNat).all itIx = p3
          generalize nstF n (t.take (szB x).toNat) (d + 1) = p4
          generalize nstF n (t.drop (szB x).toNat) d = p5
          cases p1 <;> cases p2 <;> cases p3 <;> cases p4 <;> cases p5 <;> rfl
        · have : inB (szB x) 1 (t.length : Int) = false := (inB_no _ _ _).2 hs
          rw [this]
          by_cases hs1 : 1 ≤ szB x
          · rw [decide_eq_false (show ¬ szB x ≤ (t.length : Int) by omega)]; simp
          · rw [decide_eq_false hs1]; simp
      · rw [if_pos (by omega), decide_eq_false hd]
        by_cases hs1 : 1 ≤ szB x
        · by_cases hs2 : szB x ≤ (t.length : Int)
          · have : ¬ t.take (szB x).toNat = [] := by
              rw [List.take_eq_nil_iff]
              rintro (h | h)
              · omega
              · rw [h] at hs2; simp at hs2; omega
            rw [decide_eq_false this]; simp
          · rw [decide_eq_false hs2]; simp
        · rw [decide_eq_false hs1]; simp
theorem cut_nat (l : List tItem.den) {i n : Int} (hi : 0 ≤ i) (hn : 0 ≤ n) : cutL l (i + 1) (i + 1 + n) = (l.drop (i.toNat + 1)).take n.toNat := by
  have := cut_eq l i.toNat n.toNat
  rw [← this]
  congr 1 <;> omega
theorem all_drop {p : tItem.den → Bool} {l : List tItem.den} {i : Nat} (h : i < l.length) : (l.drop i).all p = (p (l.getD i tItem.zero) && (l.drop (i + 1)).all p) := by
  rw [List.drop_eq_getElem_cons h, getD_lt _ _ _ h, List.all_cons]
theorem mem_getD {p : tItem.den → Prop} {l : List tItem.den} (h : ∀ z ∈ l, p z) {i : Nat} (hi : i < l.length) : p (l.getD i tItem.zero) := by
  rw [getD_lt _ _ _ hi]; exact h _ (List.getElem_mem hi)
theorem i8 (x : tItem.den) : ∃ (k : Int) (ps : List tPitch.den) (a b v m1 m2 z : Int), x = (k, ps, (a, b), v, (m1, m2), z) := ⟨x.1, x.2.1, x.2.2.1.1, x.2.2.1.2, x.2.2.2.1, x.2.2.2.2.1.1, x.2.2.2.2.1.2, x.2.2.2.2.2, rfl⟩
def ann_isNested_0 (nn : Nat) : LAnn := { sameS := [0, 1], modS := [4, 5], sameH := [], modH := [], base := 900000, nilE := [], nilB := [], G := fun
  | ⟨[.view (.pair (.int .i64) (.pair (.seq (.pair (.int .i64) (.pair (.int .i64) (.int .i64)))) (.pair (.pair (.int .i64) (.int .i64)) (.pair (.int .i64) (.pair (.pair (.int .i64) (.int .i64)) (.int .i64)))))) l, .int .i64 g], [], [.bool r, .int .i64 i], []⟩ => some (.p (((0 ≤ i ∧ i ≤ (l.length : Int)) ∧ l.length ≤ 1000 ∧ l.length < nn + 1 ∧ 0 ≤ g ∧ g ≤ 3) ∧ ∀ z ∈ l, itIx z = true), .ite (nstF (l.length - i.toNat) (l.drop i.toNat) g) (.leaf (.exit 0) [.bool r, .unk] []) (.leaf .ret [.bool false, .unk] []))
  | _ => none }
def pre_isNested : Args [.v qItem, .v (.int .i64)] → Prop := fun ((l : List tItem.den), (g : Int), _) => (l.length ≤ 1000 ∧ 0 ≤ g ∧ g ≤ 4) ∧ ∀ z ∈ l, itIx z = true
def mea_isNested : Args [.v qItem, .v (.int .i64)] → Nat := fun ((l : List tItem.den), (g : Int), _) => l.length
def ct_isNested_r (nn : Nat) : Ct := ctOf [.v qItem, .v (.int .i64)] (fun ((l : List tItem.den), (g : Int), _) => .p (((l.length ≤ 1000 ∧ 0 ≤ g ∧ g ≤ 4) ∧ ∀ z ∈ l, itIx z = true) ∧ l.length < nn)) (fun ((l : List tItem.den), (g : Int), _) => .bool (nestV l g))
def ct_isNested : Ct := ctOf [.v qItem, .v (.int .i64)] (fun ((l : List tItem.den), (g : Int), _) => .p ((l.length ≤ 1000 ∧ 0 ≤ g ∧ g ≤ 4) ∧ ∀ z ∈ l, itIx z = true)) (fun ((l : List tItem.den), (g : Int), _) => .bool (nestV l g))
set_option maxHeartbeats 1000000 in
theorem loop_isNested_0 (nn : Nat) (hCr : COk Try.prog (addC 73 (ct_isNested_r nn) C_Ha)) : LoopSat Try.prog Try.f73.ntmps (loopAt Try.f73 0) (ann_isNested_0 nn) := by
  refine loopSat_of (C := (addC 73 (ct_isNested_r nn) C_Ha)) (L := (addL (firstId (loopAt Try.f73 0)) (ann_isNested_0 nn) noL)) (wr := false) mixedOk hCr (loopsIn0 (by kernel_rfl)) (fun d => match d.same, d.vals with | [.view _ l, _], [_, .int _ i] => ((l.length : Int) - i).toNat | _, _ => 0) fun d p t hG hp => ?_
  simp only [ann_isNested_0] at hG
  split at hG
  rotate_left
  · simp at hG
  rename_i l g r i
  simp only [Option.some.injEq, Prod.mk.injEq] at hG
  obtain ⟨rfl, rfl⟩ := hG
  have htree : exRound Try.prog (addC 73 (ct_isNested_r nn) C_Ha) false (addL (firstId (loopAt Try.f73 0)) (ann_isNested_0 nn) noL) Try.f73.ntmps (ann_isNested_0 nn) (loopAt Try.f73 0) ⟨[.view tItem l, .int .i64 g], [], [.bool r, .int .i64 i], []⟩ = .ite (decide (i < (↑l.length : Int))) (.need ((0 : Int) ≤ i ∧ i < (↑l.length : Int)) (.ite (!(decide ((getT tItem l i).fst = (4 : Int)) || decide ((getT tItem l i).fst = (5 : Int)))) (.need (inK IntKind.i64 (i + (1 : Int))) (.leaf (.normal, ⟨[.view (I64.pair (tPitch.seq.pair (tFrac.pair (I64.pair (tIv.pair I64))))) (l), .int .i64 (g)], [], [.bool (r), .int .i64 (i + (1 : Int))], []⟩))) (.need ((0 : Int) ≤ i ∧ i < (↑l.length : Int)) (.need (inK IntKind.i64 ((↑l.length : Int) - i)) (.need (inK IntKind.i64 ((↑l.length : Int) - i - (1 : Int))) (.ite (decide ((↑l.length : Int) - i - (1 : Int) < (getT tItem l i).snd.snd.snd.snd.snd)) (.leaf (.ret, ⟨[.view (I64.pair (tPitch.seq.pair (tFrac.pair (I64.pair (tIv.pair I64))))) (l), .int .i64 (g)], [], [.bool (false), .int .i64 (i)], []⟩)) (.need (inK IntKind.i64 (i + (1 : Int))) (.need (inK IntKind.i64 (i + (1 : Int))) (.need (inK IntKind.i64 (i + (1 : Int) + (getT tItem l i).snd.snd.snd.snd.snd)) (.need ((0 : Int) ≤ i + (1 : Int) ∧ i + (1 : Int) ≤ i + (1 : Int) + (getT tItem l i).snd.snd.snd.snd.snd ∧ i + (1 : Int) + (getT tItem l i).snd.snd.snd.snd.snd ≤ (↑l.length : Int)) (.need (inK IntKind.i64 (g + (1 : Int))) (.need ((((cutL l (i + (1 : Int)) (i + (1 : Int) + (getT tItem l i).snd.snd.snd.snd.snd)).length ≤ (1000 : Nat) ∧ (0 : Int) ≤ g + (1 : Int) ∧ g + (1 : Int) ≤ (4 : Int)) ∧ ∀ (z : tItem.den), z ∈ cutL l (i + (1 : Int)) (i + (1 : Int) + (getT tItem l i).snd.snd.snd.snd.snd) → itIx z = true) ∧ (cutL l (i + (1 : Int)) (i + (1 : Int) + (getT tItem l i).snd.snd.snd.snd.snd)).length < nn) (.ite (!nestV (cutL l (i + (1 : Int)) (i + (1 : Int) + (getT tItem l i).snd.snd.snd.snd.snd)) (g + (1 : Int))) (.leaf (.ret, ⟨[.view (I64.pair (tPitch.seq.pair (tFrac.pair (I64.pair (tIv.pair I64))))) (l), .int .i64 (g)], [], [.bool (false), .int .i64 (i)], []⟩)) (.need (inK IntKind.i64 (i + (getT tItem l i).snd.snd.snd.snd.snd)) (.need (inK IntKind.i64 (i + (getT tItem l i).snd.snd.snd.snd.snd + (1 : Int))) (.leaf (.normal, ⟨[.view (I64.pair (tPitch.seq.pair (tFrac.pair (I64.pair (tIv.pair I64))))) (l), .int .i64 (g)], [], [.bool (r), .int .i64 (i + (getT tItem l i).snd.snd.snd.snd.snd + (1 : Int))], []⟩))))))))))))))))) (.leaf ((.exit 0), ⟨[.view (I64.pair (tPitch.seq.pair (tFrac.pair (I64.pair (tIv.pair I64))))) (l), .int .i64 (g)], [], [.bool (r), .int .i64 (i)], []⟩)) := by kernel_rfl
  rw [htree]
  clear htree
  replace hp : ((0 ≤ i ∧ i ≤ (l.length : Int)) ∧ l.length ≤ 1000 ∧ l.length < nn + 1 ∧ 0 ≤ g ∧ g ≤ 3) ∧ ∀ z ∈ l, itIx z = true := hp
  obtain ⟨hi, ho⟩ := hp
  simp only [Tree.ok, tyd_inj, packAV, AV.same, AV.same.sameL, encV, encS, enc, inK, Nd.ok, List.headD_cons, List.cons_append, List.nil_append, List.append_nil, true_and, and_true, Bool.true_and, Bool.and_true, loop_next, weakBs_nil, weakBs_cons, weakB_self, weakB_row, weakB_int, weakL_nil, weakL_unk, weakL_guess, isRow_own, isRow_unk, weakL_int, weakL_bool, weakL_str, weakL_own, weakL_view, weakL_nilS, noRow_int, noRow_bool, own_inj, LTree.val, cond_true, cond_false, Prod.mk.injEq, List.cons.injEq, AV.int.injEq, AV.bool.injEq, AV.str.injEq, AV.agg.injEq, ann_isNested_0, decide_eq_true_eq, decide_eq_false_iff_not, Bool.not_eq_true', Bool.not_eq_false']
  simp only [getT]
  refine ⟨fun ha => ?_, fun ha => ?_⟩
  · have h1 := nst_step l i.toNat g (by omega)
    have g1 := mem_getD ho (i := i.toNat) (by omega)
    have g2 := @grp_sz (l.getD i.toNat tItem.zero) g1
    rw [h1]
    clear h1
    obtain ⟨k, ps, a, b, v, m1, m2, z, he⟩ := i8 (l.getD i.toNat tItem.zero)
    simp only [he, grpB, szB] at g2 ⊢
    cases hg : (decide (k = 4) || decide (k = 5))
    · simp only [Bool.false_eq_true, if_false]
      rw [show (i + 1).toNat = i.toNat + 1 by omega]
      repeat' first | apply And.intro | intro _
      all_goals first | omega | exact ho _ ‹_› | trivial | rfl | contradiction | (simp at *; done)
    · have g2 := g2 hg
      have hc := cut_nat l (i := i) (n := z) (by omega) (by omega)
      simp only [if_true, hc]
      rw [show (i + z + 1).toNat = i.toNat + 1 + z.toNat by omega]
      have hm : ∀ y ∈ (l.drop (i.toNat + 1)).take z.toNat, itIx y = true := fun y hy => ho y (List.mem_of_mem_drop (List.mem_of_mem_take hy))
      have hl : ((l.drop (i.toNat + 1)).take z.toNat).length ≤ l.length - (i.toNat + 1) := by simp; omega
      rw [show ((i.toNat : Int) + 1) = i + 1 by omega]
      generalize nestV ((l.drop (i.toNat + 1)).take z.toNat) (g + 1) = N
      generalize (l.drop (i.toNat + 1)).take z.toNat = S at *
      by_cases hz : z ≤ (l.length : Int) - (i + 1)
      · rw [decide_eq_true hz]
        cases N
        all_goals
          simp only [Bool.true_and, Bool.false_and]
          repeat' first | apply And.intro | intro _
          all_goals first | omega | exact ho _ ‹_› | exact hm _ ‹_› | trivial | rfl | contradiction | (simp [Tree.ok, tyd_inj, packAV, AV.same, AV.same.sameL, encV, encS, enc, inK, Nd.ok, List.headD_cons, List.cons_append, List.nil_append, List.append_nil, true_and, and_true, Bool.true_and, Bool.and_true, loop_next, weakBs_nil, weakBs_cons, weakB_self, weakB_row, weakB_int, weakL_nil, weakL_unk, weakL_guess, isRow_own, isRow_unk, weakL_int, weakL_bool, weakL_str, weakL_own, weakL_view, weakL_nilS, noRow_int, noRow_bool, own_inj, LTree.val, cond_true, cond_false, Prod.mk.injEq, List.cons.injEq, AV.int.injEq, AV.bool.injEq, AV.str.injEq, AV.agg.injEq]; done) | (simp at *; done)
      · rw [decide_eq_false hz]
        simp only [Bool.false_and]
        repeat' first | apply And.intro | intro _
        all_goals first | omega | exact ho _ ‹_› | exact hm _ ‹_› | trivial | rfl | contradiction | (simp [Tree.ok, tyd_inj, packAV, AV.same, AV.same.sameL, encV, encS, enc, inK, Nd.ok, List.headD_cons, List.cons_append, List.nil_append, List.append_nil, true_and, and_true, Bool.true_and, Bool.and_true, loop_next, weakBs_nil, weakBs_cons, weakB_self, weakB_row, weakB_int, weakL_nil, weakL_unk, weakL_guess, isRow_own, isRow_unk, weakL_int, weakL_bool, weakL_str, weakL_own, weakL_view, weakL_nilS, noRow_int, noRow_bool, own_inj, LTree.val, cond_true, cond_false, Prod.mk.injEq, List.cons.injEq, AV.int.injEq, AV.bool.injEq, AV.str.injEq, AV.agg.injEq]; done) | (simp at *; done)
  · rw [show l.length - i.toNat = 0 by omega]
    simp [Tree.ok, tyd_inj, packAV, AV.same, AV.same.sameL, encV, encS, enc, inK, Nd.ok, List.headD_cons, List.cons_append, List.nil_append, List.append_nil, true_and, and_true, Bool.true_and, Bool.and_true, loop_next, weakBs_nil, weakBs_cons, weakB_self, weakB_row, weakB_int, weakL_nil, weakL_unk, weakL_guess, isRow_own, isRow_unk, weakL_int, weakL_bool, weakL_str, weakL_own, weakL_view, weakL_nilS, noRow_int, noRow_bool, own_inj, LTree.val, cond_true, cond_false, Prod.mk.injEq, List.cons.injEq, AV.int.injEq, AV.bool.injEq, AV.str.injEq, AV.agg.injEq, nstF]
theorem loops_isNested (nn : Nat) (hCr : COk Try.prog (addC 73 (ct_isNested_r nn) C_Ha)) : ∀ c, Try.f73.body = some c → LoopsOk Try.prog (addL (firstId (loopAt Try.f73 0)) (ann_isNested_0 nn) noL) Try.f73.ntmps c := loopsN fun i hi ann h => by
  have hn : loopN Try.f73 = 1 := by kernel_rfl
  rw [hn] at hi
  exact match i, hi, h with
    | 0, _, h => (Option.some.inj ((show (addL (firstId (loopAt Try.f73 0)) (ann_isNested_0 nn) noL) (firstId (loopAt Try.f73 0)) = some (ann_isNested_0 nn) from by kernel_rfl).symm.trans h)) ▸ loop_isNested_0 nn hCr
set_option maxHeartbeats 1000000 in
theorem step_isNested (nn : Nat) (hCr : COk Try.prog (addC 73 (ct_isNested_r nn) C_Ha)) : Sat Try.prog 73 (ct_isNested_r (nn + 1)) := by
  refine sat_typed (C := (addC 73 (ct_isNested_r nn) C_Ha)) (L := (addL (firstId (loopAt Try.f73 0)) (ann_isNested_0 nn) noL)) (wr := false) mixedOk Try.func73 hCr (loops_isNested nn hCr) (fun _ => by first | rfl | (simp [ownsOf, ownsOf.ownsL, enc, encV, encS])) fun x hp => ?_
  obtain ⟨(l : List tItem.den), (g : Int), _⟩ := x
  replace hp : ((l.length ≤ 1000 ∧ 0 ≤ g ∧ g ≤ 4) ∧ ∀ z ∈ l, itIx z = true) ∧ l.length < nn + 1 := hp
  have htree : exFunc Try.prog (addC 73 (ct_isNested_r nn) C_Ha) false (addL (firstId (loopAt Try.f73 0)) (ann_isNested_0 nn) noL) Try.f73 (encA [.v qItem, .v (.int .i64)] (l, g, ())) = .ite (decide ((3 : Int) < g)) (.leaf [.bool ((↑l.length : Int) == (0 : Int))]) (.need ((((0 : Int) ≤ (0 : Int) ∧ (0 : Int) ≤ (↑l.length : Int)) ∧ l.length ≤ (1000 : Nat) ∧ l.length < nn + (1 : Nat) ∧ (0 : Int) ≤ g ∧ g ≤ (3 : Int)) ∧ ∀ (z : ((Ty.int IntKind.i64).pair (((Ty.int IntKind.i64).pair ((Ty.int IntKind.i64).pair (Ty.int IntKind.i64))).seq.pair (((Ty.int IntKind.i64).pair (Ty.int IntKind.i64)).pair ((Ty.int IntKind.i64).pair (((Ty.int IntKind.i64).pair (Ty.int IntKind.i64)).pair (Ty.int IntKind.i64)))))).den), z ∈ l → itIx z = true) (.ite (nstF (l.length - Int.toNat (0 : Int)) (List.drop (Int.toNat (0 : Int)) l) g) (.leaf [.lit true]) (.leaf [.bool (false)]))) := by kernel_rfl
  refine (congrArg (Tree.ok _) htree).mpr ?_
  clear htree
  obtain ⟨⟨hi, ho⟩, hr⟩ := hp
  simp only [Tree.ok, tyd_inj, packAV, AV.same, AV.same.sameL, encV, encS, enc, inK, Nd.ok, List.headD_cons, List.cons_append, List.nil_append, List.append_nil, true_and, and_true, Bool.true_and, Bool.and_true, nestV, Int.toNat_zero, List.drop_zero, Nat.sub_zero, decide_eq_true_eq, decide_eq_false_iff_not]
  by_cases h3 : 3 < g
  · simp only [if_pos h3]
    refine ⟨fun _ => ?_, fun h => absurd h3 h⟩
    rw [Bool.eq_iff_iff]; simp [List.length_eq_zero_iff]
  · simp only [if_neg h3]
    refine ⟨fun h => absurd h h3, fun _ => ?_⟩
    cases hn : nstF l.length l g
    all_goals
      repeat' first | apply And.intro | intro _
      all_goals first | omega | exact ho _ ‹_› | trivial | rfl | contradiction | (simp at *; done)
theorem sat_isNested_r : ∀ nn, Sat Try.prog 73 (ct_isNested_r nn)
  | 0 => sat_zero (q := pre_isNested) (m := mea_isNested)
  | nn + 1 => step_isNested nn (addC_ok C_Ha_ok (sat_isNested_r nn))
theorem sat_isNested : Sat Try.prog 73 ct_isNested := sat_all (q := pre_isNested) (m := mea_isNested) fun nn => sat_isNested_r nn
def C_Hb_1 : FuncId → Option Ct := addC 73 ct_isNested C_Ha
theorem C_Hb_1_ok : COk Try.prog C_Hb_1 := addC_ok C_Ha_ok sat_isNested
def ann_areItems_0 : LAnn := { sameS := [0, 5, 6], modS := [2, 7], sameH := [], modH := [], base := 900000, nilE := [], nilB := [], G := fun
  | ⟨[.view (.pair (.int .i64) (.pair (.seq (.pair (.int .i64) (.pair (.int .i64) (.int .i64)))) (.pair (.pair (.int .i64) (.int .i64)) (.pair (.int .i64) (.pair (.pair (.int .i64) (.int .i64)) (.int .i64)))))) zs, .view (.pair (.int .i64) (.pair (.seq (.pair (.int .i64) (.pair (.int .i64) (.int .i64)))) (.pair (.pair (.int .i64) (.int .i64)) (.pair (.int .i64) (.pair (.pair (.int .i64) (.int .i64)) (.int .i64)))))) l, .int .i64 n], [], [.bool r, .int .i64 i], []⟩ => some (.p (((0 ≤ i ∧ i ≤ n) ∧ n = (l.length : Int) ∧ n ≤ 9223372036854775807) ∧ ∀ z ∈ l, pLen z.2.1 ≤ 9223372036854775807), .ite ((l.drop i.toNat).all itIx) (.leaf (.exit 0) [.bool r, .unk] []) (.leaf .ret [.bool false, .unk] []))
  | _ => none }
def ct_areItems : Ct := ctOf [.v qItem] (fun ((l : List tItem.den), _) => .p ((l.length : Int) ≤ 9223372036854775807 ∧ ∀ z ∈ l, pLen z.2.1 ≤ 9223372036854775807)) (fun ((l : List tItem.den), _) => .bool (decide (l.length ≤ 80) && rngF l.length l 0))
set_option maxHeartbeats 1000000 in
theorem loop_areItems_0 : LoopSat Try.prog Try.f32.ntmps (loopAt Try.f32 0) ann_areItems_0 := by
  refine loopSat_of (C := C_Hb_1) (L := (addL (firstId (loopAt Try.f32 0)) ann_areItems_0 noL)) (wr := false) mixedOk C_Hb_1_ok (loopsIn0 (by kernel_rfl)) (fun d => match d.same, d.vals with | [_, _, .int _ n], [_, .int _ i] => (n - i).toNat | _, _ => 0) fun d p t hG hp => ?_
  simp only [ann_areItems_0] at hG
  split at hG
  rotate_left
  · simp at hG
  rename_i zs l n r i
  simp only [Option.some.injEq, Prod.mk.injEq] at hG
  obtain ⟨rfl, rfl⟩ := hG
  have htree : exRound Try.prog C_Hb_1 false (addL (firstId (loopAt Try.f32 0)) ann_areItems_0 noL) Try.f32.ntmps ann_areItems_0 (loopAt Try.f32 0) ⟨[.view tItem zs, .view tItem l, .int .i64 n], [], [.bool r, .int .i64 i], []⟩ = .ite (decide (i < n)) (.need ((0 : Int) ≤ i ∧ i < (↑l.length : Int)) (.need (pLen (getT tItem l i).snd.fst ≤ (9223372036854775807 : Int)) (.ite (!itI (getT tItem l i).fst (getT tItem l i).snd.fst (getT tItem l i).snd.snd.fst.fst (getT tItem l i).snd.snd.fst.snd (getT tItem l i).snd.snd.snd.fst (getT tItem l i).snd.snd.snd.snd.fst.fst (getT tItem l i).snd.snd.snd.snd.fst.snd (getT tItem l i).snd.snd.snd.snd.snd) (.leaf (.ret, ⟨[.view (I64.pair (tPitch.seq.pair (tFrac.pair (I64.pair (tIv.pair I64))))) (zs), .view (I64.pair (tPitch.seq.pair (tFrac.pair (I64.pair (tIv.pair I64))))) (l), .int .i64 (n)], [], [.bool (false), .int .i64 (i)], []⟩)) (.need (inK IntKind.i64 (i + (1 : Int))) (.leaf (.normal, ⟨[.view (I64.pair (tPitch.seq.pair (tFrac.pair (I64.pair (tIv.pair I64))))) (zs), .view (I64.pair (tPitch.seq.pair (tFrac.pair (I64.pair (tIv.pair I64))))) (l), .int .i64 (n)], [], [.bool (r), .int .i64 (i + (1 : Int))], []⟩)))))) (.leaf ((.exit 0), ⟨[.view (I64.pair (tPitch.seq.pair (tFrac.pair (I64.pair (tIv.pair I64))))) (zs), .view (I64.pair (tPitch.seq.pair (tFrac.pair (I64.pair (tIv.pair I64))))) (l), .int .i64 (n)], [], [.bool (r), .int .i64 (i)], []⟩)) := by kernel_rfl
  rw [htree]
  clear htree
  replace hp : ((0 ≤ i ∧ i ≤ n) ∧ n = (l.length : Int) ∧ n ≤ 9223372036854775807) ∧ ∀ z ∈ l, pLen z.2.1 ≤ 9223372036854775807 := hp
  obtain ⟨hi, ho⟩ := hp
  simp only [Tree.ok, tyd_inj, packAV, AV.same, AV.same.sameL, encV, encS, enc, inK, Nd.ok, List.headD_cons, List.cons_append, List.nil_append, List.append_nil, true_and, and_true, Bool.true_and, Bool.and_true, loop_next, weakBs_nil, weakBs_cons, weakB_self, weakB_row, weakB_int, weakL_nil, weakL_unk, weakL_guess, isRow_own, isRow_unk, weakL_int, weakL_bool, weakL_str, weakL_own, weakL_view, weakL_nilS, noRow_int, noRow_bool, own_inj, LTree.val, cond_true, cond_false, Prod.mk.injEq, List.cons.injEq, AV.int.injEq, AV.bool.injEq, AV.str.injEq, AV.agg.injEq, ann_areItems_0, decide_eq_true_eq, decide_eq_false_iff_not, Bool.not_eq_true', Bool.not_eq_false']
  simp only [getT]
  refine ⟨fun ha => ?_, fun ha => ?_⟩
  · have h1 := all_drop (p := itIx) (l := l) (i := i.toNat) (by omega)
    have g1 := mem_getD ho (i := i.toNat) (by omega)
    rw [show (i + 1).toNat = i.toNat + 1 by omega, h1]
    clear h1
    simp only [itIx]
    cases hk : itI (l.getD i.toNat tItem.zero).1 (l.getD i.toNat tItem.zero).2.1 (l.getD i.toNat tItem.zero).2.2.1.1 (l.getD i.toNat tItem.zero).2.2.1.2 (l.getD i.toNat tItem.zero).2.2.2.1 (l.getD i.toNat tItem.zero).2.2.2.2.1.1 (l.getD i.toNat tItem.zero).2.2.2.2.1.2 (l.getD i.toNat tItem.zero).2.2.2.2.2
    all_goals
      simp only [Bool.true_and, Bool.false_and]
      repeat' first | apply And.intro | intro _
      all_goals first | omega | exact g1 | exact ho _ ‹_› | trivial | rfl | contradiction | (simp [Tree.ok, tyd_inj, packAV, AV.same, AV.same.sameL, encV, encS, enc, inK, Nd.ok, List.headD_cons, List.cons_append, List.nil_append, List.append_nil, true_and, and_true, Bool.true_and, Bool.and_true, loop_next, weakBs_nil, weakBs_cons, weakB_self, weakB_row, weakB_int, weakL_nil, weakL_unk, weakL_guess, isRow_own, isRow_unk, weakL_int, weakL_bool, weakL_str, weakL_own, weakL_view, weakL_nilS, noRow_int, noRow_bool, own_inj, LTree.val, cond_true, cond_false, Prod.mk.injEq, List.cons.injEq, AV.int.injEq, AV.bool.injEq, AV.str.injEq, AV.agg.injEq]; done) | (simp at *; done)
  · rw [show i.toNat = l.length by omega, List.drop_length]
    simp [Tree.ok, tyd_inj, packAV, AV.same, AV.same.sameL, encV, encS, enc, inK, Nd.ok, List.headD_cons, List.cons_append, List.nil_append, List.append_nil, true_and, and_true, Bool.true_and, Bool.and_true, loop_next, weakBs_nil, weakBs_cons, weakB_self, weakB_row, weakB_int, weakL_nil, weakL_unk, weakL_guess, isRow_own, isRow_unk, weakL_int, weakL_bool, weakL_str, weakL_own, weakL_view, weakL_nilS, noRow_int, noRow_bool, own_inj, LTree.val, cond_true, cond_false, Prod.mk.injEq, List.cons.injEq, AV.int.injEq, AV.bool.injEq, AV.str.injEq, AV.agg.injEq]
theorem loops_areItems : ∀ c, Try.f32.body = some c → LoopsOk Try.prog (addL (firstId (loopAt Try.f32 0)) ann_areItems_0 noL) Try.f32.ntmps c := loopsN fun i hi ann h => by
  have hn : loopN Try.f32 = 1 := by kernel_rfl
  rw [hn] at hi
  exact match i, hi, h with
    | 0, _, h => (Option.some.inj ((show (addL (firstId (loopAt Try.f32 0)) ann_areItems_0 noL) (firstId (loopAt Try.f32 0)) = some ann_areItems_0 from by kernel_rfl).symm.trans h)) ▸ loop_areItems_0
set_option maxHeartbeats 1000000 in
theorem sat_areItems : Sat Try.prog 32 ct_areItems := by
  refine sat_typed (C := C_Hb_1) (L := (addL (firstId (loopAt Try.f32 0)) ann_areItems_0 noL)) (wr := false) mixedOk Try.func32 C_Hb_1_ok (loops_areItems) (fun _ => by first | rfl | (simp [ownsOf, ownsOf.ownsL, enc, encV, encS])) fun x hp => ?_
  obtain ⟨(l : List tItem.den), _⟩ := x
  replace hp : (l.length : Int) ≤ 9223372036854775807 ∧ ∀ z ∈ l, pLen z.2.1 ≤ 9223372036854775807 := hp
  have htree : exFunc Try.prog C_Hb_1 false (addL (firstId (loopAt Try.f32 0)) ann_areItems_0 noL) Try.f32 (encA [.v qItem] (l, ())) = .need ((((0 : Int) ≤ (0 : Int) ∧ (0 : Int) ≤ (↑l.length : Int)) ∧ (↑l.length : Int) = (↑l.length : Int) ∧ (↑l.length : Int) ≤ (9223372036854775807 : Int)) ∧ ∀ (z : ((Ty.int IntKind.i64).pair (((Ty.int IntKind.i64).pair ((Ty.int IntKind.i64).pair (Ty.int IntKind.i64))).seq.pair (((Ty.int IntKind.i64).pair (Ty.int IntKind.i64)).pair ((Ty.int IntKind.i64).pair (((Ty.int IntKind.i64).pair (Ty.int IntKind.i64)).pair (Ty.int IntKind.i64)))))).den), z ∈ l → pLen z.snd.fst ≤ (9223372036854775807 : Int)) (.ite ((List.drop (Int.toNat (0 : Int)) l).all itIx) (.ite (decide ((↑l.length : Int) ≤ (80 : Int))) (.need ((l.length ≤ (1000 : Nat) ∧ (0 : Int) ≤ (0 : Int) ∧ (0 : Int) ≤ (4 : Int)) ∧ ∀ (z : tItem.den), z ∈ l → itIx z = true) (.leaf [.bool (nestV l (0 : Int))])) (.leaf [.lit false])) (.leaf [.bool (false)])) := by kernel_rfl
  refine (congrArg (Tree.ok _) htree).mpr ?_
  clear htree
  obtain ⟨hl, ho⟩ := hp
  have hlaw := valid_law l.length l 0 (Nat.le_refl _) (by omega) (by omega)
  have hb : ∀ z ∈ l, pLen z.2.1 ≤ 9223372036854775807 := ho
  simp only [Tree.ok, tyd_inj, packAV, AV.same, AV.same.sameL, encV, encS, enc, inK, Nd.ok, List.headD_cons, List.cons_append, List.nil_append, List.append_nil, true_and, and_true, Bool.true_and, Bool.and_true, nestV, Int.toNat_zero, List.drop_zero, Nat.sub_zero, decide_eq_true_eq, decide_eq_false_iff_not, ← hlaw]
  rw [if_neg (by omega)]
  cases ha : l.all itIx
  · simp
    repeat' first | apply And.intro | intro _
    all_goals first | omega | exact ho _ ‹_› | trivial
  · have ha' : ∀ z ∈ l, itIx z = true := List.all_eq_true.1 ha
    by_cases h80 : l.length ≤ 80
    all_goals
      simp only [h80]
      simp
      repeat' first | apply And.intro | intro _
      all_goals first | omega | exact ho _ ‹_› | exact ha' _ ‹_› | trivial | (simp_all; done) | (simp_all; omega)
def C_Hb_2 : FuncId → Option Ct := addC 32 ct_areItems C_Hb_1
theorem C_Hb_2_ok : COk Try.prog C_Hb_2 := addC_ok C_Hb_1_ok sat_areItems
def ann_l19Range_0 (nn : Nat) : LAnn := { sameS := [0, 2, 3], modS := [8, 9], sameH := [], modH := [], base := 900000, nilE := [], nilB := [], G := fun
  | ⟨[.view (.pair (.int .i64) (.pair (.seq (.pair (.int .i64) (.pair (.int .i64) (.int .i64)))) (.pair (.pair (.int .i64) (.int .i64)) (.pair (.int .i64) (.pair (.pair (.int .i64) (.int .i64)) (.int .i64)))))) l, .int .i64 t, .int .i64 d], [], [.bool r, .int .i64 i], []⟩ => some (.p (((0 ≤ i ∧ i ≤ t ∧ t ≤ (l.length : Int)) ∧ l.length ≤ 1000 ∧ (t - i).toNat < nn + 1 ∧ 0 ≤ d ∧ d ≤ 3) ∧ ∀ z ∈ l, pLen z.2.1 ≤ 9223372036854775807), .ite (rngV l i.toNat t.toNat d) (.leaf (.exit 0) [.bool r, .unk] []) (.leaf .ret [.bool false, .unk] []))
  | _ => none }
def pre_l19Range : Args [.v qItem, .v (.int .i64), .v (.int .i64), .v (.int .i64)] → Prop := fun ((l : List tItem.den), (f : Int), (t : Int), (d : Int), _) => ((0 ≤ f ∧ f ≤ t ∧ t ≤ (l.length : Int)) ∧ l.length ≤ 1000 ∧ 0 ≤ d ∧ d ≤ 3) ∧ ∀ z ∈ l, pLen z.2.1 ≤ 9223372036854775807
def mea_l19Range : Args [.v qItem, .v (.int .i64), .v (.int .i64), .v (.int .i64)] → Nat := fun ((l : List tItem.den), (f : Int), (t : Int), (d : Int), _) => (t - f).toNat
def ct_l19Range_r (nn : Nat) : Ct := ctOf [.v qItem, .v (.int .i64), .v (.int .i64), .v (.int .i64)] (fun ((l : List tItem.den), (f : Int), (t : Int), (d : Int), _) => .p ((((0 ≤ f ∧ f ≤ t ∧ t ≤ (l.length : Int)) ∧ l.length ≤ 1000 ∧ 0 ≤ d ∧ d ≤ 3) ∧ ∀ z ∈ l, pLen z.2.1 ≤ 9223372036854775807) ∧ (t - f).toNat < nn)) (fun ((l : List tItem.den), (f : Int), (t : Int), (d : Int), _) => .bool (rngV l f.toNat t.toNat d))
def ct_l19Range : Ct := ctOf [.v qItem, .v (.int .i64), .v (.int .i64), .v (.int .i64)] (fun ((l : List tItem.den), (f : Int), (t : Int), (d : Int), _) => .p (((0 ≤ f ∧ f ≤ t ∧ t ≤ (l.length : Int)) ∧ l.length ≤ 1000 ∧ 0 ≤ d ∧ d ≤ 3) ∧ ∀ z ∈ l, pLen z.2.1 ≤ 9223372036854775807)) (fun ((l : List tItem.den), (f : Int), (t : Int), (d : Int), _) => .bool (rngV l f.toNat t.toNat d))
set_option maxHeartbeats 1000000 in
theorem loop_l19Range_0 (nn : Nat) (hCr : COk Try.prog (addC 64 (ct_l19Range_r nn) C_Hb_2)) : LoopSat Try.prog Try.f64.ntmps (loopAt Try.f64 0) (ann_l19Range_0 nn) := by
  refine loopSat_of (C := (addC 64 (ct_l19Range_r nn) C_Hb_2)) (L := (addL (firstId (loopAt Try.f64 0)) (ann_l19Range_0 nn) noL)) (wr := false) mixedOk hCr (loopsIn0 (by kernel_rfl)) (fun d => match d.same, d.vals with | [_, .int _ t, _], [_, .int _ i] => (t - i).toNat | _, _ => 0) fun d p t hG hp => ?_
  simp only [ann_l19Range_0] at hG
  split at hG
  rotate_left
  · simp at hG
  rename_i l t d r i
  simp only [Option.some.injEq, Prod.mk.injEq] at hG
  obtain ⟨rfl, rfl⟩ := hG
  have htree : exRound Try.prog (addC 64 (ct_l19Range_r nn) C_Hb_2) false (addL (firstId (loopAt Try.f64 0)) (ann_l19Range_0 nn) noL) Try.f64.ntmps (ann_l19Range_0 nn) (loopAt Try.f64 0) ⟨[.view tItem l, .int .i64 t, .int .i64 d], [], [.bool r, .int .i64 i], []⟩ = .ite (decide (i < t)) (.need ((0 : Int) ≤ i ∧ i < (↑l.length : Int)) (.need (pLen (getT tItem l i).snd.fst ≤ (9223372036854775807 : Int)) (.ite (!itS (getT tItem l i).fst (getT tItem l i).snd.fst (getT tItem l i).snd.snd.fst.fst (getT tItem l i).snd.snd.fst.snd (getT tItem l i).snd.snd.snd.fst (getT tItem l i).snd.snd.snd.snd.fst.fst (getT tItem l i).snd.snd.snd.snd.fst.snd (getT tItem l i).snd.snd.snd.snd.snd) (.leaf (.ret, ⟨[.view (I64.pair (tPitch.seq.pair (tFrac.pair (I64.pair (tIv.pair I64))))) (l), .int .i64 (t), .int .i64 (d)], [], [.bool (false), .int .i64 (i)], []⟩)) (.ite (!(decide ((getT tItem l i).fst = (4 : Int)) || decide ((getT tItem l i).fst = (5 : Int)))) (.need (inK IntKind.i64 (i + (1 : Int))) (.leaf (.normal, ⟨[.view (I64.pair (tPitch.seq.pair (tFrac.pair (I64.pair (tIv.pair I64))))) (l), .int .i64 (t), .int .i64 (d)], [], [.bool (r), .int .i64 (i + (1 : Int))], []⟩))) (.ite (decide ((3 : Int) ≤ d)) (.leaf (.ret, ⟨[.view (I64.pair (tPitch.seq.pair (tFrac.pair (I64.pair (tIv.pair I64))))) (l), .int .i64 (t), .int .i64 (d)], [], [.bool (false), .int .i64 (i)], []⟩)) (.need (inK IntKind.i64 (t - i)) (.need (inK IntKind.i64 (t - i - (1 : Int))) (.ite (!inB (getT tItem l i).snd.snd.snd.snd.snd (1 : Int) (t - i - (1 : Int))) (.leaf (.ret, ⟨[.view (I64.pair (tPitch.seq.pair (tFrac.pair (I64.pair (tIv.pair I64))))) (l), .int .i64 (t), .int .i64 (d)], [], [.bool (false), .int .i64 (i)], []⟩)) (.need (inK IntKind.i64 (i + (1 : Int))) (.need (inK IntKind.i64 (i + (1 : Int))) (.need (inK IntKind.i64 (i + (1 : Int) + (getT tItem l i).snd.snd.snd.snd.snd)) (.need (inK IntKind.i64 (d + (1 : Int))) (.need (((((0 : Int) ≤ i + (1 : Int) ∧ i + (1 : Int) ≤ i + (1 : Int) + (getT tItem l i).snd.snd.snd.snd.snd ∧ i + (1 : Int) + (getT tItem l i).snd.snd.snd.snd.snd ≤ (↑l.length : Int)) ∧ l.length ≤ (1000 : Nat) ∧ (0 : Int) ≤ d + (1 : Int) ∧ d + (1 : Int) ≤ (3 : Int)) ∧ ∀ (z : tItem.den), z ∈ l → pLen z.snd.fst ≤ (9223372036854775807 : Int)) ∧ (i + (1 : Int) + (getT tItem l i).snd.snd.snd.snd.snd - (i + (1 : Int))).toNat < nn) (.ite (!rngV l (i + (1 : Int)).toNat (i + (1 : Int) + (getT tItem l i).snd.snd.snd.snd.snd).toNat (d + (1 : Int))) (.leaf (.ret, ⟨[.view (I64.pair (tPitch.seq.pair (tFrac.pair (I64.pair (tIv.pair I64))))) (l), .int .i64 (t), .int .i64 (d)], [], [.bool (false), .int .i64 (i)], []⟩)) (.need (inK IntKind.i64 (i + (getT tItem l i).snd.snd.snd.snd.snd)) (.need (inK IntKind.i64 (i + (getT tItem l i).snd.snd.snd.snd.snd + (1 : Int))) (.leaf (.normal, ⟨[.view (I64.pair (tPitch.seq.pair (tFrac.pair (I64.pair (tIv.pair I64))))) (l), .int .i64 (t), .int .i64 (d)], [], [.bool (r), .int .i64 (i + (getT tItem l i).snd.snd.snd.snd.snd + (1 : Int))], []⟩)))))))))))))))))) (.leaf ((.exit 0), ⟨[.view (I64.pair (tPitch.seq.pair (tFrac.pair (I64.pair (tIv.pair I64))))) (l), .int .i64 (t), .int .i64 (d)], [], [.bool (r), .int .i64 (i)], []⟩)) := by kernel_rfl
  rw [htree]
  clear htree
  replace hp : ((0 ≤ i ∧ i ≤ t ∧ t ≤ (l.length : Int)) ∧ l.length ≤ 1000 ∧ (t - i).toNat < nn + 1 ∧ 0 ≤ d ∧ d ≤ 3) ∧ ∀ z ∈ l, pLen z.2.1 ≤ 9223372036854775807 := hp
  obtain ⟨hi, ho⟩ := hp
  simp only [Tree.ok, tyd_inj, packAV, AV.same, AV.same.sameL, encV, encS, enc, inK, Nd.ok, List.headD_cons, List.cons_append, List.nil_append, List.append_nil, true_and, and_true, Bool.true_and, Bool.and_true, loop_next, weakBs_nil, weakBs_cons, weakB_self, weakB_row, weakB_int, weakL_nil, weakL_unk, weakL_guess, isRow_own, isRow_unk, weakL_int, weakL_bool, weakL_str, weakL_own, weakL_view, weakL_nilS, noRow_int, noRow_bool, own_inj, LTree.val, cond_true, cond_false, Prod.mk.injEq, List.cons.injEq, AV.int.injEq, AV.bool.injEq, AV.str.injEq, AV.agg.injEq, ann_l19Range_0, decide_eq_true_eq, decide_eq_false_iff_not, Bool.not_eq_true', Bool.not_eq_false']
  simp only [getT]
  refine ⟨fun ha => ?_, fun ha => ?_⟩
  · have h1 := rng_step l i.toNat t.toNat d (by omega) (by omega)
    have g1 := mem_getD ho (i := i.toNat) (by omega)
    rw [h1]
    clear h1
    obtain ⟨k, ps, a, b, v, m1, m2, z, he⟩ := i8 (l.getD i.toNat tItem.zero)
    simp only [he, grpB, szB, itSx] at g1 ⊢
    rw [show ((t.toNat : Int) - (i.toNat : Int) - 1) = t - i - 1 by omega]
    have hin := inB_iff z 1 (t - i - 1)
    cases hs : itS k ps a b v m1 m2 z
    · simp only [Bool.false_and]
      repeat' first | apply And.intro | intro _
      all_goals first | omega | exact g1 | exact ho _ ‹_› | trivial | rfl | contradiction | (simp [Tree.ok, tyd_inj, packAV, AV.same, AV.same.sameL, encV, encS, enc, inK, Nd.ok, List.headD_cons, List.cons_append, List.nil_append, List.append_nil, true_and, and_true, Bool.true_and, Bool.and_true, loop_next, weakBs_nil, weakBs_cons, weakB_self, weakB_row, weakB_int, weakL_nil, weakL_unk, weakL_guess, isRow_own, isRow_unk, weakL_int, weakL_bool, weakL_str, weakL_own, weakL_view, weakL_nilS, noRow_int, noRow_bool, own_inj, LTree.val, cond_true, cond_false, Prod.mk.injEq, List.cons.injEq, AV.int.injEq, AV.bool.injEq, AV.str.injEq, AV.agg.injEq]; done) | (simp at *; done)
    · cases hg : (decide (k = 4) || decide (k = 5))
      · simp only [Bool.false_eq_true, if_false, Bool.true_and]
        rw [show (i + 1).toNat = i.toNat + 1 by omega]
        repeat' first | apply And.intro | intro _
        all_goals first | omega | exact g1 | exact ho _ ‹_› | trivial | rfl | contradiction | (simp at *; done)
      · simp only [if_true, Bool.true_and]
        by_cases hd : d < 3
        · rw [decide_eq_true hd]
          cases hz : inB z 1 (t - i - 1)
          · simp only [Bool.true_and, Bool.false_and]
            repeat' first | apply And.intro | intro _
            all_goals first | omega | exact g1 | exact ho _ ‹_› | trivial | rfl | contradiction | (simp [Tree.ok, tyd_inj, packAV, AV.same, AV.same.sameL, encV, encS, enc, inK, Nd.ok, List.headD_cons, List.cons_append, List.nil_append, List.append_nil, true_and, and_true, Bool.true_and, Bool.and_true, loop_next, weakBs_nil, weakBs_cons, weakB_self, weakB_row, weakB_int, weakL_nil, weakL_unk, weakL_guess, isRow_own, isRow_unk, weakL_int, weakL_bool, weakL_str, weakL_own, weakL_view, weakL_nilS, noRow_int, noRow_bool, own_inj, LTree.val, cond_true, cond_false, Prod.mk.injEq, List.cons.injEq, AV.int.injEq, AV.bool.injEq, AV.str.injEq, AV.agg.injEq]; done) | (simp at *; done)
          · have hz' := hin.1 hz
            rw [show (i + z + 1).toNat = i.toNat + 1 + z.toNat by omega, show (i + 1).toNat = i.toNat + 1 by omega, show (i + 1 + z).toNat = i.toNat + 1 + z.toNat by omega]
            generalize rngV l (i.toNat + 1) (i.toNat + 1 + z.toNat) (d + 1) = N
            cases N
            all_goals
              simp only [Bool.true_and, Bool.false_and]
              repeat' first | apply And.intro | intro _
              all_goals first | omega | exact g1 | exact ho _ ‹_› | trivial | rfl | contradiction | (simp [Tree.ok, tyd_inj, packAV, AV.same, AV.same.sameL, encV, encS, enc, inK, Nd.ok, List.headD_cons, List.cons_append, List.nil_append, List.append_nil, true_and, and_true, Bool.true_and, Bool.and_true, loop_next, weakBs_nil, weakBs_cons, weakB_self, weakB_row, weakB_int, weakL_nil, weakL_unk, weakL_guess, isRow_own, isRow_unk, weakL_int, weakL_bool, weakL_str, weakL_own, weakL_view, weakL_nilS, noRow_int, noRow_bool, own_inj, LTree.val, cond_true, cond_false, Prod.mk.injEq, List.cons.injEq, AV.int.injEq, AV.bool.injEq, AV.str.injEq, AV.agg.injEq]; done) | (simp at *; done)
        · rw [decide_eq_false hd]
          simp only [Bool.false_and]
          repeat' first | apply And.intro | intro _
          all_goals first | omega | exact g1 | exact ho _ ‹_› | trivial | rfl | contradiction | (simp [Tree.ok, tyd_inj, packAV, AV.same, AV.same.sameL, encV, encS, enc, inK, Nd.ok, List.headD_cons, List.cons_append, List.nil_append, List.append_nil, true_and, and_true, Bool.true_and, Bool.and_true, loop_next, weakBs_nil, weakBs_cons, weakB_self, weakB_row, weakB_int, weakL_nil, weakL_unk, weakL_guess, isRow_own, isRow_unk, weakL_int, weakL_bool, weakL_str, weakL_own, weakL_view, weakL_nilS, noRow_int, noRow_bool, own_inj, LTree.val, cond_true, cond_false, Prod.mk.injEq, List.cons.injEq, AV.int.injEq, AV.bool.injEq, AV.str.injEq, AV.agg.injEq]; done) | (simp at *; done)
  · have : rngV l i.toNat t.toNat d = true := by unfold rngV; rw [show t.toNat - i.toNat = 0 by omega]; rfl
    rw [this]
    simp [Tree.ok, tyd_inj, packAV, AV.same, AV.same.sameL, encV, encS, enc, inK, Nd.ok, List.headD_cons, List.cons_append, List.nil_append, List.append_nil, true_and, and_true, Bool.true_and, Bool.and_true, loop_next, weakBs_nil, weakBs_cons, weakB_self, weakB_row, weakB_int, weakL_nil, weakL_unk, weakL_guess, isRow_own, isRow_unk, weakL_int, weakL_bool, weakL_str, weakL_own, weakL_view, weakL_nilS, noRow_int, noRow_bool, own_inj, LTree.val, cond_true, cond_false, Prod.mk.injEq, List.cons.injEq, AV.int.injEq, AV.bool.injEq, AV.str.injEq, AV.agg.injEq]
theorem loops_l19Range (nn : Nat) (hCr : COk Try.prog (addC 64 (ct_l19Range_r nn) C_Hb_2)) : ∀ c, Try.f64.body = some c → LoopsOk Try.prog (addL (firstId (loopAt Try.f64 0)) (ann_l19Range_0 nn) noL) Try.f64.ntmps c := loopsN fun i hi ann h => by
  have hn : loopN Try.f64 = 1 := by kernel_rfl
  rw [hn] at hi
  exact match i, hi, h with
    | 0, _, h => (Option.some.inj ((show (addL (firstId (loopAt Try.f64 0)) (ann_l19Range_0 nn) noL) (firstId (loopAt Try.f64 0)) = some (ann_l19Range_0 nn) from by kernel_rfl).symm.trans h)) ▸ loop_l19Range_0 nn hCr
set_option maxHeartbeats 1000000 in
theorem step_l19Range (nn : Nat) (hCr : COk Try.prog (addC 64 (ct_l19Range_r nn) C_Hb_2)) : Sat Try.prog 64 (ct_l19Range_r (nn + 1)) := by
  refine sat_typed (C := (addC 64 (ct_l19Range_r nn) C_Hb_2)) (L := (addL (firstId (loopAt Try.f64 0)) (ann_l19Range_0 nn) noL)) (wr := false) mixedOk Try.func64 hCr (loops_l19Range nn hCr) (fun _ => by first | rfl | (simp [ownsOf, ownsOf.ownsL, enc, encV, encS])) fun x hp => ?_
  obtain ⟨(l : List tItem.den), (f : Int), (t : Int), (d : Int), _⟩ := x
  replace hp : (((0 ≤ f ∧ f ≤ t ∧ t ≤ (l.length : Int)) ∧ l.length ≤ 1000 ∧ 0 ≤ d ∧ d ≤ 3) ∧ ∀ z ∈ l, pLen z.2.1 ≤ 9223372036854775807) ∧ (t - f).toNat < nn + 1 := hp
  have htree : exFunc Try.prog (addC 64 (ct_l19Range_r nn) C_Hb_2) false (addL (firstId (loopAt Try.f64 0)) (ann_l19Range_0 nn) noL) Try.f64 (encA [.v qItem, .v (.int .i64), .v (.int .i64), .v (.int .i64)] (l, f, t, d, ())) = .need ((((0 : Int) ≤ f ∧ f ≤ t ∧ t ≤ (↑l.length : Int)) ∧ l.length ≤ (1000 : Nat) ∧ (t - f).toNat < nn + (1 : Nat) ∧ (0 : Int) ≤ d ∧ d ≤ (3 : Int)) ∧ ∀ (z : ((Ty.int IntKind.i64).pair (((Ty.int IntKind.i64).pair ((Ty.int IntKind.i64).pair (Ty.int IntKind.i64))).seq.pair (((Ty.int IntKind.i64).pair (Ty.int IntKind.i64)).pair ((Ty.int IntKind.i64).pair (((Ty.int IntKind.i64).pair (Ty.int IntKind.i64)).pair (Ty.int IntKind.i64)))))).den), z ∈ l → pLen z.snd.fst ≤ (9223372036854775807 : Int)) (.ite (rngV l f.toNat t.toNat d) (.leaf [.lit true]) (.leaf [.bool (false)])) := by kernel_rfl
  refine (congrArg (Tree.ok _) htree).mpr ?_
  clear htree
  obtain ⟨⟨hi, ho⟩, hr⟩ := hp
  simp only [Tree.ok, tyd_inj, packAV, AV.same, AV.same.sameL, encV, encS, enc, inK, Nd.ok, List.headD_cons, List.cons_append, List.nil_append, List.append_nil, true_and, and_true, Bool.true_and, Bool.and_true]
  cases hn : rngV l f.toNat t.toNat d
  all_goals
    repeat' first | apply And.intro | intro _
    all_goals first | omega | exact ho _ ‹_› | trivial | rfl | contradiction | (simp at *; done)
theorem sat_l19Range_r : ∀ nn, Sat Try.prog 64 (ct_l19Range_r nn)
  | 0 => sat_zero (q := pre_l19Range) (m := mea_l19Range)
  | nn + 1 => step_l19Range nn (addC_ok C_Hb_2_ok (sat_l19Range_r nn))
theorem sat_l19Range : Sat Try.prog 64 ct_l19Range := sat_all (q := pre_l19Range) (m := mea_l19Range) fun nn => sat_l19Range_r nn
def C_Hb_3 : FuncId → Option Ct := addC 64 ct_l19Range C_Hb_2
theorem C_Hb_3_ok : COk Try.prog C_Hb_3 := addC_ok C_Hb_2_ok sat_l19Range
def ct_l19Ok : Ct := ctOf [.v qItem] (fun ((l : List tItem.den), _) => .p ((l.length : Int) ≤ 9223372036854775807 ∧ ∀ z ∈ l, pLen z.2.1 ≤ 9223372036854775807)) (fun ((l : List tItem.den), _) => .bool (decide (l.length ≤ 80) && rngF l.length l 0))
set_option maxHeartbeats 1000000 in
theorem sat_l19Ok : Sat Try.prog 26 ct_l19Ok := by
  refine sat_typed (C := C_Hb_3) (L := noL) (wr := false) mixedOk Try.func26 C_Hb_3_ok (loops0 (by kernel_rfl)) (fun _ => by first | rfl | (simp [ownsOf, ownsOf.ownsL, enc, encV, encS])) fun x hp => ?_
  obtain ⟨(l : List tItem.den), _⟩ := x
  replace hp : (l.length : Int) ≤ 9223372036854775807 ∧ ∀ z ∈ l, pLen z.2.1 ≤ 9223372036854775807 := hp
  have htree : exFunc Try.prog C_Hb_3 false noL Try.f26 (encA [.v qItem] (l, ())) = .ite (decide ((↑l.length : Int) ≤ (80 : Int))) (.need ((((0 : Int) ≤ (0 : Int) ∧ (0 : Int) ≤ (↑l.length : Int) ∧ (↑l.length : Int) ≤ (↑l.length : Int)) ∧ l.length ≤ (1000 : Nat) ∧ (0 : Int) ≤ (0 : Int) ∧ (0 : Int) ≤ (3 : Int)) ∧ ∀ (z : tItem.den), z ∈ l → pLen z.snd.fst ≤ (9223372036854775807 : Int)) (.leaf [.bool (rngV l (Int.toNat (0 : Int)) (↑l.length : Int).toNat (0 : Int))])) (.leaf [.lit false]) := by kernel_rfl
  refine (congrArg (Tree.ok _) htree).mpr ?_
  clear htree
  have e : rngV l 0 l.length 0 = rngF l.length l 0 := by unfold rngV seg; simp
  simp only [Tree.ok, tyd_inj, packAV, AV.same, AV.same.sameL, encV, encS, enc, inK, Nd.ok, List.headD_cons, List.cons_append, List.nil_append, List.append_nil, true_and, and_true, Bool.true_and, Bool.and_true, decide_eq_true_eq, decide_eq_false_iff_not, Int.toNat_natCast, Int.toNat_zero, e]
  by_cases h80 : l.length ≤ 80
  all_goals
    simp only [h80]
    simp
    repeat' first | apply And.intro | intro _
    all_goals first | omega | exact hp.2 _ ‹_› | trivial | (simp_all; done) | (simp_all; omega)
def C_Hb_4 : FuncId → Option Ct := addC 26 ct_l19Ok C_Hb_3
theorem C_Hb_4_ok : COk Try.prog C_Hb_4 := addC_ok C_Hb_3_ok sat_l19Ok

def C_Hb : FuncId → Option Ct := C_Hb_4
theorem C_Hb_ok : COk Try.prog C_Hb := C_Hb_4_ok
end Go.Proofs.Ytemlpimibhijoaa
