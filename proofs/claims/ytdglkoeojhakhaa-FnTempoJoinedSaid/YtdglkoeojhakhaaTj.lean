/- The law on joined tempo maps Conditions: as each says. -/
import Derived.Test.YtdglkoeojhakhaaQJ
set_option linter.unusedSimpArgs false
set_option linter.unusedVariables false
namespace Go.Proofs.Ytdglkoeojhakhaa
open Go.RowKit Sx
set_option maxRecDepth 100000
set_option maxHeartbeats 1000000
def ct_sCompareFrac : Ct := ctOf [.s tFrac, .s tFrac] (fun _ => .tt) (fun (((a : Int), (b : Int)), ((c : Int), (d : Int)), _) => .int .i64 (if okF a b = true ∧ okF c d = true then cmpF a b c d else 0))
set_option maxHeartbeats 1000000 in
theorem sat_sCompareFrac : Sat Try.prog 58 ct_sCompareFrac := by
  refine sat_typed (C := C_Gj) (L := noL) (wr := false) mixedOk Try.func58 C_Gj_ok (loops0 (by kernel_rfl)) (fun _ => by first | rfl | (simp [ownsOf, ownsOf.ownsL, enc, encV, encS])) fun x hp => ?_
  obtain ⟨⟨(a : Int), (b : Int)⟩, ⟨(c : Int), (d : Int)⟩, _⟩ := x
  clear hp
  have htree : exFunc Try.prog C_Gj false noL Try.f58 (encA [.s tFrac, .s tFrac] ((a, b), (c, d), ())) = .ite (!okF a b) (.leaf [.int .i64 ((0 : Int))]) (.ite (!okF c d) (.leaf [.int .i64 ((0 : Int))]) (.need ((((1 : Int) ≤ b ∧ b ≤ (1000000 : Int)) ∧ (-1000000000 : Int) ≤ a ∧ a ≤ (1000000000 : Int)) ∧ ((1 : Int) ≤ d ∧ d ≤ (1000000 : Int)) ∧ (-1000000000 : Int) ≤ c ∧ c ≤ (1000000000 : Int)) (.leaf [.int .i64 (cmpF a b c d)]))) := by kernel_rfl
  refine (congrArg (Tree.ok _) htree).mpr ?_
  clear htree
  have h1 := @okF_bd a b
  have h2 := @okF_bd c d
  simp only [Tree.ok, tyd_inj, packAV, AV.same, AV.same.sameL, encV, encS, enc, inK, Nd.ok, List.headD_cons, List.cons_append, List.nil_append, List.append_nil, true_and, and_true, Bool.true_and, Bool.and_true]
  repeat' first | apply And.intro | intro _
  all_goals first | omega | (simp_all; done) | (simp_all; omega) | grind
def C_Tj_1 : FuncId → Option Ct := addC 58 ct_sCompareFrac C_Gj
theorem C_Tj_1_ok : COk Try.prog C_Tj_1 := addC_ok C_Gj_ok sat_sCompareFrac
def ct_lawTempoJoined : Ct := ctOf [.v (.seq (.int .u8)), .v (.seq (.int .u8))] (fun ((code : List (Ty.int .u8).den), (more : List (Ty.int .u8).den), _) => .p (bytesOk code ∧ bytesOk more)) (fun ((code : List (Ty.int .u8).den), (more : List (Ty.int .u8).den), _) => .bool true)
set_option maxHeartbeats 1000000 in
theorem sat_lawTempoJoined : Sat Try.prog 12 ct_lawTempoJoined := by
  refine sat_typed (C := C_Tj_1) (L := noL) (wr := false) mixedOk Try.func12 C_Tj_1_ok (loops0 (by kernel_rfl)) (fun _ => by first | rfl | (simp [ownsOf, ownsOf.ownsL, enc, encV, encS])) fun x hp => ?_
  obtain ⟨(code : List (Ty.int .u8).den), (more : List (Ty.int .u8).den), _⟩ := x
  replace hp : bytesOk code ∧ bytesOk more := hp
  have htree : exFunc Try.prog C_Tj_1 false noL Try.f12 (encA [.v (.seq (.int .u8)), .v (.seq (.int .u8))] (code, more, ())) = .ite (decide ((3000 : Int) < (↑code.length : Int)) || decide ((3000 : Int) < (↑more.length : Int))) (.leaf [.lit true]) (.need (bytesOk code) (.need (bytesOk more) (.need ((↑(A2T code).fst.length : Int) ≤ (9223372036854775807 : Int) ∧ (↑(A2T more).fst.length : Int) ≤ (9223372036854775807 : Int)) (.ite ((joinF (A2T code).fst (A2T code).snd.fst.fst (A2T code).snd.fst.snd (A2T more).fst).snd != (0 : Int)) (.ite ((joinF (A2T code).fst (A2T code).snd.fst.fst (A2T code).snd.fst.snd (A2T more).fst).snd == (5 : Int)) (.leaf [.lit true]) (.leaf [.bool ((joinF (A2T code).fst (A2T code).snd.fst.fst (A2T code).snd.fst.snd (A2T more).fst).snd == (2 : Int))])) (.need ((↑(A2T code).fst.length : Int) ≤ (9223372036854775807 : Int)) (.need ((↑(joinF (A2T code).fst (A2T code).snd.fst.fst (A2T code).snd.fst.snd (A2T more).fst).fst.length : Int) ≤ (9223372036854775807 : Int)) (.ite ((posF (A2T code).fst ((A2T code).snd.fst.fst, (A2T code).snd.fst.snd)).snd != (0 : Int)) (.leaf [.lit true]) (.ite ((posF (joinF (A2T code).fst (A2T code).snd.fst.fst (A2T code).snd.fst.snd (A2T more).fst).fst ((A2T code).snd.snd.fst, (A2T code).snd.snd.snd)).snd != (0 : Int)) (.leaf [.lit true]) (.ite (decide ((if okF (A2T code).snd.snd.fst (A2T code).snd.snd.snd = true ∧ okF (A2T code).snd.fst.fst (A2T code).snd.fst.snd = true then cmpF (A2T code).snd.snd.fst (A2T code).snd.snd.snd (A2T code).snd.fst.fst (A2T code).snd.fst.snd else (0 : Int)) ≤ (0 : Int))) (.need ((↑(A2T code).fst.length : Int) ≤ (9223372036854775807 : Int)) (.ite ((posF (A2T code).fst ((A2T code).snd.snd.fst, (A2T code).snd.snd.snd)).snd != (0 : Int)) (.leaf [.lit true]) (.leaf [.bool ((posF (joinF (A2T code).fst (A2T code).snd.fst.fst (A2T code).snd.fst.snd (A2T more).fst).fst ((A2T code).snd.snd.fst, (A2T code).snd.snd.snd)).fst.fst == (posF (A2T code).fst ((A2T code).snd.snd.fst, (A2T code).snd.snd.snd)).fst.fst && (posF (joinF (A2T code).fst (A2T code).snd.fst.fst (A2T code).snd.fst.snd (A2T more).fst).fst ((A2T code).snd.snd.fst, (A2T code).snd.snd.snd)).fst.snd == (posF (A2T code).fst ((A2T code).snd.snd.fst, (A2T code).snd.snd.snd)).fst.snd)]))) (.need ((↑(A2T more).fst.length : Int) ≤ (9223372036854775807 : Int)) (.ite ((subF (A2T code).snd.snd.fst (A2T code).snd.snd.snd (A2T code).snd.fst.fst (A2T code).snd.fst.snd).snd != (0 : Int)) (.leaf [.lit true]) (.ite ((posF (A2T more).fst ((subF (A2T code).snd.snd.fst (A2T code).snd.snd.snd (A2T code).snd.fst.fst (A2T code).snd.fst.snd).fst.fst, (subF (A2T code).snd.snd.fst (A2T code).snd.snd.snd (A2T code).snd.fst.fst (A2T code).snd.fst.snd).fst.snd)).snd != (0 : Int)) (.leaf [.lit true]) (.ite ((addF (posF (A2T code).fst ((A2T code).snd.fst.fst, (A2T code).snd.fst.snd)).fst.fst (posF (A2T code).fst ((A2T code).snd.fst.fst, (A2T code).snd.fst.snd)).fst.snd (posF (A2T more).fst ((subF (A2T code).snd.snd.fst (A2T code).snd.snd.snd (A2T code).snd.fst.fst (A2T code).snd.fst.snd).fst.fst, (subF (A2T code).snd.snd.fst (A2T code).snd.snd.snd (A2T code).snd.fst.fst (A2T code).snd.fst.snd).fst.snd)).fst.fst (posF (A2T more).fst ((subF (A2T code).snd.snd.fst (A2T code).snd.snd.snd (A2T code).snd.fst.fst (A2T code).snd.fst.snd).fst.fst, (subF (A2T code).snd.snd.fst (A2T code).snd.snd.snd (A2T code).snd.fst.fst (A2T code).snd.fst.snd).fst.snd)).fst.snd).snd != (0 : Int)) (.leaf [.lit true]) (.leaf [.bool ((posF (joinF (A2T code).fst (A2T code).snd.fst.fst (A2T code).snd.fst.snd (A2T more).fst).fst ((A2T code).snd.snd.fst, (A2T code).snd.snd.snd)).fst.fst == (addF (posF (A2T code).fst ((A2T code).snd.fst.fst, (A2T code).snd.fst.snd)).fst.fst (posF (A2T code).fst ((A2T code).snd.fst.fst, (A2T code).snd.fst.snd)).fst.snd (posF (A2T more).fst ((subF (A2T code).snd.snd.fst (A2T code).snd.snd.snd (A2T code).snd.fst.fst (A2T code).snd.fst.snd).fst.fst, (subF (A2T code).snd.snd.fst (A2T code).snd.snd.snd (A2T code).snd.fst.fst (A2T code).snd.fst.snd).fst.snd)).fst.fst (posF (A2T more).fst ((subF (A2T code).snd.snd.fst (A2T code).snd.snd.snd (A2T code).snd.fst.fst (A2T code).snd.fst.snd).fst.fst, (subF (A2T code).snd.snd.fst (A2T code).snd.snd.snd (A2T code).snd.fst.fst (A2T code).snd.fst.snd).fst.snd)).fst.snd).fst.fst && (posF (joinF (A2T code).fst (A2T code).snd.fst.fst (A2T code).snd.fst.snd (A2T more).fst).fst ((A2T code).snd.snd.fst, (A2T code).snd.snd.snd)).fst.snd == (addF (posF (A2T code).fst ((A2T code).snd.fst.fst, (A2T code).snd.fst.snd)).fst.fst (posF (A2T code).fst ((A2T code).snd.fst.fst, (A2T code).snd.fst.snd)).fst.snd (posF (A2T more).fst ((subF (A2T code).snd.snd.fst (A2T code).snd.snd.snd (A2T code).snd.fst.fst (A2T code).snd.fst.snd).fst.fst, (subF (A2T code).snd.snd.fst (A2T code).snd.snd.snd (A2T code).snd.fst.fst (A2T code).snd.fst.snd).fst.snd)).fst.fst (posF (A2T more).fst ((subF (A2T code).snd.snd.fst (A2T code).snd.snd.snd (A2T code).snd.fst.fst (A2T code).snd.fst.snd).fst.fst, (subF (A2T code).snd.snd.fst (A2T code).snd.snd.snd (A2T code).snd.fst.fst (A2T code).snd.fst.snd).fst.snd)).fst.snd).fst.snd)])))))))))))))) := by kernel_rfl
  refine (congrArg (Tree.ok _) htree).mpr ?_
  clear htree
  obtain ⟨v1, v2, v3⟩ := A2T_valid hp.1
  obtain ⟨w1, _, _⟩ := A2T_valid hp.2
  have hc := join_code v1 w1 v2
  have l1 := (tmap_spec v1).1
  have l2 := (tmap_spec w1).1
  have l3 := joinF_len (A2T code).1 (A2T code).2.1.1 (A2T code).2.1.2 (A2T more).1
  have e1 := v2.1
  have e2 := v3.1
  simp only [Tree.ok, tyd_inj, packAV, AV.same, AV.same.sameL, encV, encS, enc, inK, Nd.ok, List.headD_cons, List.cons_append, List.nil_append, List.append_nil, true_and, and_true, Bool.true_and, Bool.and_true, etaF, e1, e2, and_self, if_true]
  have LL := fun hj hx hy hcc => law_low (ts := (A2T code).1) (us := (A2T more).1) hj v2 v3 hx hy hcc
  have LH := fun hj hx hm hcc hd hy hz => law_high (ts := (A2T code).1) (us := (A2T more).1) hj v2 v3 hx hm hcc hd hy hz
  generalize A2T code = X at *
  generalize A2T more = Y at *
  obtain ⟨ts, a, b⟩ := X
  obtain ⟨us, _, _⟩ := Y
  simp only at *
  generalize posF (joinF ts a.1 a.2 us).1 b = x at *
  generalize posF ts a = pm at *
  generalize posF ts b = pb at *
  generalize hS : subF b.1 b.2 a.1 a.2 = d at *
  generalize posF us d.1 = py at *
  generalize addF pm.1.1 pm.1.2 py.1.1 py.1.2 = z at *
  generalize hJ : joinF ts a.1 a.2 us = J at *
  simp only [bne_iff_ne, ne_eq, bne_eq_false_iff_eq, beq_iff_eq, beq_eq_false_iff_ne, Bool.and_eq_true, decide_eq_true_eq, decide_eq_false_iff_not]
  repeat' first | apply And.intro | intro _
  all_goals first | omega | exact (hp.1 _ ‹_›).1 | exact (hp.1 _ ‹_›).2 | exact (hp.2 _ ‹_›).1 | exact (hp.2 _ ‹_›).2 | trivial | (rw [LL (by omega) (by omega) (by omega) (by omega)]; done) | (rw [LH (by omega) (by omega) (by omega) (by omega) (by omega) (by omega) (by omega)]; done)
def C_Tj_2 : FuncId → Option Ct := addC 12 ct_lawTempoJoined C_Tj_1
theorem C_Tj_2_ok : COk Try.prog C_Tj_2 := addC_ok C_Tj_1_ok sat_lawTempoJoined

def C_Tj : FuncId → Option Ct := C_Tj_2
theorem C_Tj_ok : COk Try.prog C_Tj := C_Tj_2_ok
end Go.Proofs.Ytdglkoeojhakhaa
