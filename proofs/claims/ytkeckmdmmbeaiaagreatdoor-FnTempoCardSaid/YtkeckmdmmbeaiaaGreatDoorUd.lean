/- Contracts: texts of tempo maps, of the program and the reference; the law on them. Conditions: as each says. -/
import Derived.Test.YtkeckmdmmbeaiaaGreatDoorUc
import Derived.Test.YtkeckmdmmbeaiaaGreatDoorUj
import Derived.Test.YtkeckmdmmbeaiaaGreatDoorGa
set_option linter.unusedSimpArgs false
set_option linter.unusedVariables false
namespace Go.Proofs.YtkeckmdmmbeaiaaGreatDoor
open Go.RowKit Sx
set_option maxRecDepth 100000
set_option maxHeartbeats 1000000
def C_UdB : FuncId → Option Ct := addC 72 ct_Join (addC 71 ct_Decimal (addC 140 ct_l01Dec (addC 70 ct_FracText (addC 138 ct_l02Text C_Ga))))
theorem C_UdB_ok : COk Tryz.prog C_UdB := addC_ok (addC_ok (addC_ok (addC_ok (addC_ok C_Ga_ok sat_l02Text) sat_FracText) sat_l01Dec) sat_Decimal) sat_Join
def wordT (x : (Int × Int) × Int) : List UInt8 := fracT x.1 ++ [58] ++ decT x.2
def wordsT (l : List tTempo.den) : List (List UInt8) := l.map wordT
def tempoT (l : List tTempo.den) : List UInt8 := Go.Lib.join (wordsT l) [32]
theorem wordsT_len (l : List tTempo.den) : (wordsT l).length = l.length := List.length_map _
theorem wordsT_at (ts : List tTempo.den) (i : Nat) (h : i < ts.length) : wordsT (ts.drop i) = wordT (tAt ts i) :: wordsT (ts.drop (i + 1)) := by
  unfold tAt wordsT
  rw [List.drop_eq_getElem_cons h, getD_lt _ _ _ h, List.map_cons]
theorem wordT_len {x : (Int × Int) × Int} (h : goodT x = true) : (wordT x).length ≤ 70 := by
  have h1 := goodT_ok h
  have l1 := fracT_len (x := x.1) h1.1
  have l2 := decT_len (n := x.2) (by omega)
  unfold wordT
  simp only [List.length_append, List.length_cons, List.length_nil]
  omega
def allT (ts : List tTempo.den) : Prop := ∀ k, k < ts.length → goodT (tAt ts k) = true
theorem allT_of {ts : List tTempo.den} (h : tmapF ts = true) : allT ts := fun k hk => ((tmap_spec h).2.2.1 k hk).1
theorem jn_cons (w v : List UInt8) (vs : List (List UInt8)) (c : List UInt8) : Go.Lib.join (w :: v :: vs) c = w ++ c ++ Go.Lib.join (v :: vs) c := by
  simp [Go.Lib.join, List.intercalate, List.intersperse]
theorem jn_one (w : List UInt8) (c : List UInt8) : Go.Lib.join [w] c = w := by simp [Go.Lib.join, List.intercalate, List.intersperse]
theorem jn_len : ∀ (ws : List (List UInt8)) (m : Nat), (∀ w ∈ ws, w.length ≤ m) → (Go.Lib.join ws [32]).length ≤ ws.length * (m + 1)
  | [], m, _ => by simp [Go.Lib.join, List.intercalate, List.intersperse]
  | [w], m, h => by rw [jn_one]; have := h w List.mem_cons_self; simp; omega
  | w :: v :: vs, m, h => by
    have ih := jn_len (v :: vs) m fun x hx => h x (List.mem_cons_of_mem _ hx)
    have h1 := h w List.mem_cons_self
    rw [jn_cons, List.length_append, List.length_append]
    simp only [List.length_cons, List.length_nil] at ih ⊢
    have e : (vs.length + 1 + 1) * (m + 1) = (vs.length + 1) * (m + 1) + (m + 1) := by rw [Nat.add_mul (vs.length + 1) 1]; omega
    omega
/-- What is still to be told, a blank ahead but of the first. -/
def restT (ts : List tTempo.den) (i : Nat) : List UInt8 := if i = 0 then tempoT ts else (wordsT (ts.drop i)).flatMap fun w => [32] ++ w
theorem jn_flat : ∀ (w : List UInt8) (ws : List (List UInt8)), Go.Lib.join (w :: ws) [32] = w ++ ws.flatMap fun w => [32] ++ w
  | w, [] => by rw [jn_one]; simp
  | w, v :: vs => by rw [jn_cons, jn_flat v vs]; simp
theorem restT_at (ts : List tTempo.den) (i : Nat) (h : i < ts.length) : restT ts i = (if i = 0 then [] else [32]) ++ wordT (tAt ts i) ++ restT ts (i + 1) := by
  have h1 := wordsT_at ts i h
  unfold restT
  rw [if_neg (by omega : ¬ i + 1 = 0)]
  split
  · rename_i hi
    subst hi
    rw [List.drop_zero] at h1
    unfold tempoT
    rw [h1, jn_flat]
    rfl
  · rw [h1, List.flatMap_cons, List.append_assoc]
    try rw [List.append_assoc]
theorem restT_end (ts : List tTempo.den) (i : Nat) (h : ts.length ≤ i) (h0 : 0 < i) : restT ts i = [] := by
  unfold restT
  rw [if_neg (by omega), List.drop_eq_nil_of_le h]
  rfl
def ann_iTempoText_0 : LAnn := { sameS := [11, 12], modS := [2, 3, 13], sameH := [], modH := [], base := 900000, nilE := [], nilB := [], G := fun
  | ⟨[.view (.pair (.pair (.int .i64) (.int .i64)) (.int .i64)) ts, .int .i64 n], [], [.str r, .own .str out, .int .i64 i], []⟩ => some (.p (n = (ts.length : Int) ∧ (0 ≤ i ∧ i ≤ n) ∧ n ≤ 8 ∧ allT ts ∧ (out.length : Int) ≤ i), .leaf (.exit 0) [.str r, .own .str (out ++ wordsT (ts.drop i.toNat)), .unk] [])
  | _ => none }
def ct_iTempoText : Ct := ctOf [.s qTempo] (fun ((ts : List tTempo.den), _) => .p ((ts.length : Int) ≤ 9223372036854775807)) (fun ((ts : List tTempo.den), _) => .str (if tmapF ts = true then tempoT ts else []))
set_option maxHeartbeats 1000000 in
theorem loop_iTempoText_0 : LoopSat Tryz.prog Tryz.f19.ntmps (loopAt Tryz.f19 0) ann_iTempoText_0 := by
  refine loopSat_of (C := C_UdB) (L := (addL (firstId (loopAt Tryz.f19 0)) ann_iTempoText_0 noL)) (wr := false) mixedOk C_UdB_ok (loopsIn0 (by kernel_rfl)) (fun d => match d.same, d.vals with | [_, .int _ n], [_, _, .int _ i] => (n - i).toNat | _, _ => 0) fun d p t hG hp => ?_
  simp only [ann_iTempoText_0] at hG
  split at hG
  rotate_left
  · simp at hG
  rename_i ts n r out i
  simp only [Option.some.injEq, Prod.mk.injEq] at hG
  obtain ⟨rfl, rfl⟩ := hG
  have htree : exRound Tryz.prog C_UdB false (addL (firstId (loopAt Tryz.f19 0)) ann_iTempoText_0 noL) Tryz.f19.ntmps ann_iTempoText_0 (loopAt Tryz.f19 0) ⟨[.view tTempo ts, .int .i64 n], [], [.str r, .own .str out, .int .i64 i], []⟩ = .ite (decide (i < n)) (.need ((0 : Int) ≤ i ∧ i < (↑ts.length : Int)) (.need ((↑(if okF (getT tTempo ts i).fst.fst (getT tTempo ts i).fst.snd = true then fracT ((getT tTempo ts i).fst.fst, (getT tTempo ts i).fst.snd) else []).length : Int) + (↑#[(58 : UInt8)].toList.length : Int) ≤ (9223372036854775807 : Int)) (.need ((-9223372036854775808 : Int) ≤ (getT tTempo ts i).snd ∧ (getT tTempo ts i).snd ≤ (9223372036854775807 : Int)) (.need ((↑((if okF (getT tTempo ts i).fst.fst (getT tTempo ts i).fst.snd = true then fracT ((getT tTempo ts i).fst.fst, (getT tTempo ts i).fst.snd) else []) ++ #[(58 : UInt8)].toList).length : Int) + (↑(decT (getT tTempo ts i).snd).length : Int) ≤ (9223372036854775807 : Int)) (.need (out.length + [(if okF (getT tTempo ts i).fst.fst (getT tTempo ts i).fst.snd = true then fracT ((getT tTempo ts i).fst.fst, (getT tTempo ts i).fst.snd) else []) ++ #[(58 : UInt8)].toList ++ decT (getT tTempo ts i).snd].length ≤ (16777216 : Nat)) (.need (inK IntKind.i64 (i + (1 : Int))) (.leaf (.normal, ⟨[.view (tFrac.pair I64) (ts), .int .i64 (n)], [], [.str (r), .own (Ty.str) (out ++ [(if okF (getT tTempo ts i).fst.fst (getT tTempo ts i).fst.snd = true then fracT ((getT tTempo ts i).fst.fst, (getT tTempo ts i).fst.snd) else []) ++ #[(58 : UInt8)].toList ++ decT (getT tTempo ts i).snd]), .int .i64 (i + (1 : Int))], []⟩)))))))) (.leaf ((.exit 0), ⟨[.view (tFrac.pair I64) (ts), .int .i64 (n)], [], [.str (r), .own (Ty.str) (out), .int .i64 (i)], []⟩)) := by kernel_rfl
  rw [htree]
  clear htree
  replace hp : n = (ts.length : Int) ∧ (0 ≤ i ∧ i ≤ n) ∧ n ≤ 8 ∧ allT ts ∧ (out.length : Int) ≤ i := hp
  obtain ⟨rfl, hi, hn, hs, ho⟩ := hp
  have hz : ∀ (k : Int), getT tTempo ts k = tAt ts k.toNat := fun _ => rfl
  have eta : ∀ z : Int × Int, (z.1, z.2) = z := fun _ => rfl
  have s1 : #[(58 : UInt8)].toList = [58] := rfl
  simp only [Tree.ok, tyd_inj, packAV, AV.same, AV.same.sameL, encV, encS, enc, inK, Nd.ok, List.headD_cons, List.cons_append, List.nil_append, List.append_nil, true_and, and_true, Bool.true_and, Bool.and_true, loop_next, weakBs_nil, weakBs_cons, weakB_self, weakB_row, weakB_int, weakL_nil, weakL_unk, weakL_guess, isRow_own, isRow_unk, weakL_int, weakL_bool, weakL_str, weakL_own, weakL_view, weakL_nilS, noRow_int, noRow_bool, own_inj, LTree.val, cond_true, cond_false, Prod.mk.injEq, List.cons.injEq, AV.int.injEq, AV.bool.injEq, AV.str.injEq, AV.agg.injEq, ann_iTempoText_0, hz, eta, s1, decide_eq_true_eq, decide_eq_false_iff_not]
  refine ⟨fun ha => ?_, fun ha => ?_⟩
  · have hg := hs i.toNat (by omega)
    have h1 := goodT_ok hg
    have l1 := fracT_len (x := (tAt ts i.toNat).1) h1.1
    have l2 := decT_len (n := (tAt ts i.toNat).2) (by omega)
    rw [wordsT_at ts i.toNat (by omega), show (i + 1).toNat = i.toNat + 1 by omega]
    obtain ⟨e, he⟩ : ∃ e : (Int × Int) × Int, tAt ts i.toNat = e := ⟨_, rfl⟩
    simp only [he] at *
    obtain ⟨⟨e1, e2⟩, e3⟩ := e
    dsimp only at *
    have f0 : -1000000000000000000 ≤ e3 := by omega
    have f1 : e3 ≤ 1000000000000000000 := by omega
    have f2 : -9223372036854775808 ≤ e3 := by omega
    have f3 : e3 ≤ 9223372036854775807 := by omega
    simp only [h1.1, if_true, wordT, List.length_append, List.length_cons, List.length_nil, List.append_assoc, List.singleton_append]
    repeat' first | apply And.intro | intro _
    all_goals first | omega | exact hs _ ‹_› | exact hA _ ‹_› | exact f0 | exact f1 | exact f2 | exact f3 | trivial | rfl | contradiction | exact hs | (simp; done) | (simp; omega) | (trace_state; fail)
  · rw [List.drop_eq_nil_of_le (by omega)]
    simp [Tree.ok, tyd_inj, packAV, AV.same, AV.same.sameL, encV, encS, enc, inK, Nd.ok, List.headD_cons, List.cons_append, List.nil_append, List.append_nil, true_and, and_true, Bool.true_and, Bool.and_true, loop_next, weakBs_nil, weakBs_cons, weakB_self, weakB_row, weakB_int, weakL_nil, weakL_unk, weakL_guess, isRow_own, isRow_unk, weakL_int, weakL_bool, weakL_str, weakL_own, weakL_view, weakL_nilS, noRow_int, noRow_bool, own_inj, LTree.val, cond_true, cond_false, Prod.mk.injEq, List.cons.injEq, AV.int.injEq, AV.bool.injEq, AV.str.injEq, AV.agg.injEq, wordsT]
theorem loops_iTempoText : ∀ c, Tryz.f19.body = some c → LoopsOk Tryz.prog (addL (firstId (loopAt Tryz.f19 0)) ann_iTempoText_0 noL) Tryz.f19.ntmps c := loopsN fun i hi ann h => by
  have hn : loopN Tryz.f19 = 1 := by kernel_rfl
  rw [hn] at hi
  exact match i, hi, h with
    | 0, _, h => (Option.some.inj ((show (addL (firstId (loopAt Tryz.f19 0)) ann_iTempoText_0 noL) (firstId (loopAt Tryz.f19 0)) = some ann_iTempoText_0 from by kernel_rfl).symm.trans h)) ▸ loop_iTempoText_0
set_option maxHeartbeats 1000000 in
theorem sat_iTempoText : Sat Tryz.prog 19 ct_iTempoText := by
  refine sat_typed (C := C_UdB) (L := (addL (firstId (loopAt Tryz.f19 0)) ann_iTempoText_0 noL)) (wr := false) mixedOk Tryz.func19 C_UdB_ok (loops_iTempoText) (fun _ => by first | rfl | (simp [ownsOf, ownsOf.ownsL, enc, encV, encS])) fun x hp => ?_
  obtain ⟨(ts : List tTempo.den), _⟩ := x
  replace hp : (ts.length : Int) ≤ 9223372036854775807 := hp
  have htree : exFunc Tryz.prog C_UdB false (addL (firstId (loopAt Tryz.f19 0)) ann_iTempoText_0 noL) Tryz.f19 (encA [.s qTempo] (ts, ())) = .need ((↑ts.length : Int) ≤ (9223372036854775807 : Int)) (.ite (!tmapF ts) (.leaf [.str (#[].toList)]) (.need ((↑ts.length : Int) = (↑ts.length : Int) ∧ ((0 : Int) ≤ (0 : Int) ∧ (0 : Int) ≤ (↑ts.length : Int)) ∧ (↑ts.length : Int) ≤ (8 : Int) ∧ allT ts ∧ (↑(0 : Nat) : Int) ≤ (0 : Int)) (.need (([] ++ wordsT (List.drop (Int.toNat (0 : Int)) ts)).length ≤ (1000000 : Nat) ∧ (Lib.join ([] ++ wordsT (List.drop (Int.toNat (0 : Int)) ts)) #[(32 : UInt8)].toList).length ≤ (140737488355328 : Nat)) (.leaf [.str (Lib.join ([] ++ wordsT (List.drop (Int.toNat (0 : Int)) ts)) #[(32 : UInt8)].toList)])))) := by kernel_rfl
  refine (congrArg (Tree.ok _) htree).mpr ?_
  clear htree
  cases hk : tmapF ts
  · simp only [Tree.ok, tyd_inj, packAV, AV.same, AV.same.sameL, encV, encS, enc, inK, Nd.ok, List.headD_cons, List.cons_append, List.nil_append, List.append_nil, true_and, and_true, Bool.true_and, Bool.and_true, hk]
    simp
    try exact hp
  have hT := tmap_spec hk
  have hA := allT_of hk
  have hj := jn_len (wordsT ts) 70 fun w hw => by
    obtain ⟨x, hx, rfl⟩ := List.mem_map.1 hw
    obtain ⟨k, hk', rfl⟩ := List.mem_iff_getElem.1 hx
    have := wordT_len (hA k hk')
    unfold tAt at this
    rwa [getD_lt _ _ _ hk'] at this
  have hwl := wordsT_len ts
  have s1 : #[(32 : UInt8)].toList = [32] := rfl
  simp only [Tree.ok, tyd_inj, packAV, AV.same, AV.same.sameL, encV, encS, enc, inK, Nd.ok, List.headD_cons, List.cons_append, List.nil_append, List.append_nil, true_and, and_true, Bool.true_and, Bool.and_true, hk, s1, Bool.not_true, Bool.false_eq_true, if_true, Int.toNat_zero, List.drop_zero, List.nil_append]
  repeat' first | apply And.intro | intro _
  all_goals first | omega | exact hs _ ‹_› | exact hA _ ‹_› | exact f0 | exact f1 | exact f2 | exact f3 | trivial | rfl | contradiction | assumption | (simp; done) | (trace_state; fail)
def C_Ud_1 : FuncId → Option Ct := addC 19 ct_iTempoText C_UdB
theorem C_Ud_1_ok : COk Tryz.prog C_Ud_1 := addC_ok C_UdB_ok sat_iTempoText
def ann_l17Text_0 : LAnn := { sameS := [0], modS := [2, 3, 4], sameH := [], modH := [], base := 900000, nilE := [], nilB := [], G := fun
  | ⟨[.velt (.seq (.pair (.pair (.int .i64) (.int .i64)) (.int .i64))) ts 0], [], [.str r, .str o, .int .i64 i], []⟩ => some (.p ((0 ≤ i ∧ i ≤ (ts.length : Int)) ∧ (1 ≤ ts.length ∧ ts.length ≤ 8) ∧ allT ts ∧ (o.length : Int) ≤ 100 * i), .leaf (.exit 0) [.str r, .str (o ++ restT ts i.toNat), .unk] [])
  | _ => none }
def ct_l17Text : Ct := ctOf [.p qTempo] (fun ((ts : List tTempo.den), _) => .p (tmapF ts = true)) (fun ((ts : List tTempo.den), _) => .str (tempoT ts))
set_option maxHeartbeats 1000000 in
theorem loop_l17Text_0 : LoopSat Tryz.prog Tryz.f99.ntmps (loopAt Tryz.f99 0) ann_l17Text_0 := by
  refine loopSat_of (C := C_Ud_1) (L := (addL (firstId (loopAt Tryz.f99 0)) ann_l17Text_0 noL)) (wr := false) mixedOk C_Ud_1_ok (loopsIn0 (by kernel_rfl)) (fun d => match d.same, d.vals with | [.velt (.seq _) x _], [_, _, .int _ i] => ((List.length x : Int) - i).toNat | _, _ => 0) fun d p t hG hp => ?_
  simp only [ann_l17Text_0] at hG
  split at hG
  rotate_left
  · simp at hG
  rename_i ts r o i
  simp only [Option.some.injEq, Prod.mk.injEq] at hG
  obtain ⟨rfl, rfl⟩ := hG
  have htree : exRound Tryz.prog C_Ud_1 false (addL (firstId (loopAt Tryz.f99 0)) ann_l17Text_0 noL) Tryz.f99.ntmps ann_l17Text_0 (loopAt Tryz.f99 0) ⟨[.velt qTempo ts 0], [], [.str r, .str o, .int .i64 i], []⟩ = .ite (decide (i < (↑ts.length : Int))) (.ite (decide ((0 : Int) < i)) (.need ((↑o.length : Int) + (↑#[(32 : UInt8)].toList.length : Int) ≤ (9223372036854775807 : Int)) (.need ((0 : Int) ≤ i ∧ i < (↑ts.length : Int)) (.need (okF (getT tTempo ts i).fst.fst (getT tTempo ts i).fst.snd = true) (.need ((↑(fracT ((getT tTempo ts i).fst.fst, (getT tTempo ts i).fst.snd)).length : Int) + (↑#[(58 : UInt8)].toList.length : Int) ≤ (9223372036854775807 : Int)) (.need ((0 : Int) ≤ i ∧ i < (↑ts.length : Int)) (.need ((-1000000000000000000 : Int) ≤ (getT tTempo ts i).snd ∧ (getT tTempo ts i).snd ≤ (1000000000000000000 : Int)) (.need ((↑(fracT ((getT tTempo ts i).fst.fst, (getT tTempo ts i).fst.snd) ++ #[(58 : UInt8)].toList).length : Int) + (↑(decT (getT tTempo ts i).snd).length : Int) ≤ (9223372036854775807 : Int)) (.need ((↑(o ++ #[(32 : UInt8)].toList).length : Int) + (↑(fracT ((getT tTempo ts i).fst.fst, (getT tTempo ts i).fst.snd) ++ #[(58 : UInt8)].toList ++ decT (getT tTempo ts i).snd).length : Int) ≤ (9223372036854775807 : Int)) (.need (inK IntKind.i64 (i + (1 : Int))) (.leaf (.normal, ⟨[.velt (tTempo.seq) (ts) ((0 : Nat))], [], [.str (r), .str (o ++ #[(32 : UInt8)].toList ++ (fracT ((getT tTempo ts i).fst.fst, (getT tTempo ts i).fst.snd) ++ #[(58 : UInt8)].toList ++ decT (getT tTempo ts i).snd)), .int .i64 (i + (1 : Int))], []⟩))))))))))) (.need ((0 : Int) ≤ i ∧ i < (↑ts.length : Int)) (.need (okF (getT tTempo ts i).fst.fst (getT tTempo ts i).fst.snd = true) (.need ((↑(fracT ((getT tTempo ts i).fst.fst, (getT tTempo ts i).fst.snd)).length : Int) + (↑#[(58 : UInt8)].toList.length : Int) ≤ (9223372036854775807 : Int)) (.need ((0 : Int) ≤ i ∧ i < (↑ts.length : Int)) (.need ((-1000000000000000000 : Int) ≤ (getT tTempo ts i).snd ∧ (getT tTempo ts i).snd ≤ (1000000000000000000 : Int)) (.need ((↑(fracT ((getT tTempo ts i).fst.fst, (getT tTempo ts i).fst.snd) ++ #[(58 : UInt8)].toList).length : Int) + (↑(decT (getT tTempo ts i).snd).length : Int) ≤ (9223372036854775807 : Int)) (.need ((↑o.length : Int) + (↑(fracT ((getT tTempo ts i).fst.fst, (getT tTempo ts i).fst.snd) ++ #[(58 : UInt8)].toList ++ decT (getT tTempo ts i).snd).length : Int) ≤ (9223372036854775807 : Int)) (.need (inK IntKind.i64 (i + (1 : Int))) (.leaf (.normal, ⟨[.velt (tTempo.seq) (ts) ((0 : Nat))], [], [.str (r), .str (o ++ (fracT ((getT tTempo ts i).fst.fst, (getT tTempo ts i).fst.snd) ++ #[(58 : UInt8)].toList ++ decT (getT tTempo ts i).snd)), .int .i64 (i + (1 : Int))], []⟩))))))))))) (.leaf ((.exit 0), ⟨[.velt (tTempo.seq) (ts) ((0 : Nat))], [], [.str (r), .str (o), .int .i64 (i)], []⟩)) := by kernel_rfl
  rw [htree]
  clear htree
  replace hp : (0 ≤ i ∧ i ≤ (ts.length : Int)) ∧ (1 ≤ ts.length ∧ ts.length ≤ 8) ∧ allT ts ∧ (o.length : Int) ≤ 100 * i := hp
  obtain ⟨hi, hn, hs, ho⟩ := hp
  have hz : ∀ (k : Int), getT tTempo ts k = tAt ts k.toNat := fun _ => rfl
  have eta : ∀ z : Int × Int, (z.1, z.2) = z := fun _ => rfl
  have s1 : #[(32 : UInt8)].toList = [32] := rfl
  have s2 : #[(58 : UInt8)].toList = [58] := rfl
  simp only [Tree.ok, tyd_inj, packAV, AV.same, AV.same.sameL, encV, encS, enc, inK, Nd.ok, List.headD_cons, List.cons_append, List.nil_append, List.append_nil, true_and, and_true, Bool.true_and, Bool.and_true, loop_next, weakBs_nil, weakBs_cons, weakB_self, weakB_row, weakB_int, weakL_nil, weakL_unk, weakL_guess, isRow_own, isRow_unk, weakL_int, weakL_bool, weakL_str, weakL_own, weakL_view, weakL_nilS, noRow_int, noRow_bool, own_inj, LTree.val, cond_true, cond_false, Prod.mk.injEq, List.cons.injEq, AV.int.injEq, AV.bool.injEq, AV.str.injEq, AV.agg.injEq, ann_l17Text_0, hz, eta, s1, s2, decide_eq_true_eq, decide_eq_false_iff_not]
  refine ⟨fun ha => ?_, fun ha => ?_⟩
  · have hg := hs i.toNat (by omega)
    have h1 := goodT_ok hg
    have l1 := fracT_len (x := (tAt ts i.toNat).1) h1.1
    have l2 := decT_len (n := (tAt ts i.toNat).2) (by omega)
    rw [restT_at ts i.toNat (by omega), show (i + 1).toNat = i.toNat + 1 by omega]
    obtain ⟨e, he⟩ : ∃ e : (Int × Int) × Int, tAt ts i.toNat = e := ⟨_, rfl⟩
    simp only [he] at *
    obtain ⟨⟨e1, e2⟩, e3⟩ := e
    dsimp only at *
    have f0 : -1000000000000000000 ≤ e3 := by omega
    have f1 : e3 ≤ 1000000000000000000 := by omega
    have f2 : -9223372036854775808 ≤ e3 := by omega
    have f3 : e3 ≤ 9223372036854775807 := by omega
    by_cases h0 : 0 < i
    · rw [if_neg (by omega : ¬ i.toNat = 0)]
      simp only [h0, h1.1, wordT, true_implies, not_true_eq_false, false_implies, and_true, List.length_append, List.length_cons, List.length_nil, List.append_assoc, List.singleton_append]
      repeat' first | apply And.intro | intro _
      all_goals first | omega | exact hs _ ‹_› | exact hA _ ‹_› | exact f0 | exact f1 | exact f2 | exact f3 | trivial | rfl | contradiction | exact hs | exact h1.1 | (simp; done) | (simp; omega) | (trace_state; fail)
    · rw [if_pos (by omega : i.toNat = 0)]
      simp only [h0, h1.1, wordT, not_false_eq_true, true_implies, false_implies, true_and, List.nil_append, List.length_append, List.length_cons, List.length_nil, List.append_assoc, List.singleton_append]
      repeat' first | apply And.intro | intro _
      all_goals first | omega | exact hs _ ‹_› | exact hA _ ‹_› | exact f0 | exact f1 | exact f2 | exact f3 | trivial | rfl | contradiction | exact hs | exact h1.1 | (simp; done) | (simp; omega) | (trace_state; fail)
  · rw [restT_end ts i.toNat (by omega) (by omega)]
    simp [Tree.ok, tyd_inj, packAV, AV.same, AV.same.sameL, encV, encS, enc, inK, Nd.ok, List.headD_cons, List.cons_append, List.nil_append, List.append_nil, true_and, and_true, Bool.true_and, Bool.and_true, loop_next, weakBs_nil, weakBs_cons, weakB_self, weakB_row, weakB_int, weakL_nil, weakL_unk, weakL_guess, isRow_own, isRow_unk, weakL_int, weakL_bool, weakL_str, weakL_own, weakL_view, weakL_nilS, noRow_int, noRow_bool, own_inj, LTree.val, cond_true, cond_false, Prod.mk.injEq, List.cons.injEq, AV.int.injEq, AV.bool.injEq, AV.str.injEq, AV.agg.injEq]
theorem loops_l17Text : ∀ c, Tryz.f99.body = some c → LoopsOk Tryz.prog (addL (firstId (loopAt Tryz.f99 0)) ann_l17Text_0 noL) Tryz.f99.ntmps c := loopsN fun i hi ann h => by
  have hn : loopN Tryz.f99 = 1 := by kernel_rfl
  rw [hn] at hi
  exact match i, hi, h with
    | 0, _, h => (Option.some.inj ((show (addL (firstId (loopAt Tryz.f99 0)) ann_l17Text_0 noL) (firstId (loopAt Tryz.f99 0)) = some ann_l17Text_0 from by kernel_rfl).symm.trans h)) ▸ loop_l17Text_0
set_option maxHeartbeats 1000000 in
theorem sat_l17Text : Sat Tryz.prog 99 ct_l17Text := by
  refine sat_typed (C := C_Ud_1) (L := (addL (firstId (loopAt Tryz.f99 0)) ann_l17Text_0 noL)) (wr := false) mixedOk Tryz.func99 C_Ud_1_ok (loops_l17Text) (fun _ => by first | rfl | (simp [ownsOf, ownsOf.ownsL, enc, encV, encS])) fun x hp => ?_
  obtain ⟨(ts : List tTempo.den), _⟩ := x
  replace hp : tmapF ts = true := hp
  have htree : exFunc Tryz.prog C_Ud_1 false (addL (firstId (loopAt Tryz.f99 0)) ann_l17Text_0 noL) Tryz.f99 (encA [.p qTempo] (ts, ())) = .need (((0 : Int) ≤ (0 : Int) ∧ (0 : Int) ≤ (↑ts.length : Int)) ∧ ((1 : Nat) ≤ ts.length ∧ ts.length ≤ (8 : Nat)) ∧ allT ts ∧ (↑([] : List UInt8).length : Int) ≤ (100 : Int) * (0 : Int)) (.leaf [.str (([] : List UInt8) ++ restT ts (Int.toNat (0 : Int)))]) := by kernel_rfl
  refine (congrArg (Tree.ok _) htree).mpr ?_
  clear htree
  have hT := tmap_spec hp
  have hA := allT_of hp
  have e0 : restT ts 0 = tempoT ts := if_pos rfl
  have s0 : #[].toList = ([] : List UInt8) := rfl
  simp only [Tree.ok, tyd_inj, packAV, AV.same, AV.same.sameL, encV, encS, enc, inK, Nd.ok, List.headD_cons, List.cons_append, List.nil_append, List.append_nil, true_and, and_true, Bool.true_and, Bool.and_true, s0, e0, Int.toNat_zero, List.nil_append]
  repeat' first | apply And.intro | intro _
  all_goals first | omega | exact hs _ ‹_› | exact hA _ ‹_› | exact f0 | exact f1 | exact f2 | exact f3 | trivial | rfl | contradiction | exact hT.1.1 | exact hT.1.2 | exact hA | assumption | (simp; done) | (rw [e0]; done) | (simp [e0]; done)
def C_Ud_2 : FuncId → Option Ct := addC 99 ct_l17Text C_Ud_1
theorem C_Ud_2_ok : COk Tryz.prog C_Ud_2 := addC_ok C_Ud_1_ok sat_l17Text
def ct_sTempoText : Ct := ctOf [.s qTempo] (fun ((ts : List tTempo.den), _) => .p ((ts.length : Int) ≤ 9223372036854775807)) (fun ((ts : List tTempo.den), _) => .str (if tmapF ts = true then tempoT ts else []))
set_option maxHeartbeats 1000000 in
theorem sat_sTempoText : Sat Tryz.prog 45 ct_sTempoText := by
  refine sat_typed (C := C_Ud_2) (L := noL) (wr := false) mixedOk Tryz.func45 C_Ud_2_ok (loops0 (by kernel_rfl)) (fun _ => by first | rfl | (simp [ownsOf, ownsOf.ownsL, enc, encV, encS])) fun x hp => ?_
  obtain ⟨(ts : List tTempo.den), _⟩ := x
  replace hp : (ts.length : Int) ≤ 9223372036854775807 := hp
  have htree : exFunc Tryz.prog C_Ud_2 false noL Tryz.f45 (encA [.s qTempo] (ts, ())) = .need ((↑ts.length : Int) ≤ (9223372036854775807 : Int)) (.ite (!tmapF ts) (.leaf [.str (#[].toList)]) (.need (tmapF ts = true) (.leaf [.str (tempoT ts)]))) := by kernel_rfl
  refine (congrArg (Tree.ok _) htree).mpr ?_
  clear htree
  cases hk : tmapF ts
  · simp only [Tree.ok, tyd_inj, packAV, AV.same, AV.same.sameL, encV, encS, enc, inK, Nd.ok, List.headD_cons, List.cons_append, List.nil_append, List.append_nil, true_and, and_true, Bool.true_and, Bool.and_true, hk]
    simp
    try exact hp
  simp only [Tree.ok, tyd_inj, packAV, AV.same, AV.same.sameL, encV, encS, enc, inK, Nd.ok, List.headD_cons, List.cons_append, List.nil_append, List.append_nil, true_and, and_true, Bool.true_and, Bool.and_true, hk, Bool.not_true, Bool.false_eq_true, if_true]
  repeat' first | apply And.intro | intro _
  all_goals first | omega | exact hs _ ‹_› | exact hA _ ‹_› | exact f0 | exact f1 | exact f2 | exact f3 | trivial | rfl | contradiction | assumption
def C_Ud_3 : FuncId → Option Ct := addC 45 ct_sTempoText C_Ud_2
theorem C_Ud_3_ok : COk Tryz.prog C_Ud_3 := addC_ok C_Ud_2_ok sat_sTempoText

def C_Ud : FuncId → Option Ct := C_Ud_3
theorem C_Ud_ok : COk Tryz.prog C_Ud := C_Ud_3_ok
end Go.Proofs.YtkeckmdmmbeaiaaGreatDoor
