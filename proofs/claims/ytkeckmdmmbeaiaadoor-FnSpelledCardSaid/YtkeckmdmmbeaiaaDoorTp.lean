/- The law on spelled keys and chords. Conditions: as each says. -/
import Derived.Test.YtkeckmdmmbeaiaaDoorDp
import Derived.Test.YtkeckmdmmbeaiaaDoorUg
import Derived.Test.YtkeckmdmmbeaiaaDoorPcS
set_option linter.unusedSimpArgs false
set_option linter.unusedVariables false
namespace Go.Proofs.YtkeckmdmmbeaiaaDoor
open Go.RowKit Sx
set_option maxRecDepth 100000
set_option maxHeartbeats 1000000
def C_TpB : FuncId → Option Ct := addC 32 ct_iChordPitches (addC 45 ct_iSpellKey C_Dp)
theorem C_TpB_ok : COk Tryd.prog C_TpB := addC_ok (addC_ok C_Dp_ok sat_iSpellKey) sat_iChordPitches
def ct_a2Size : Ct := ctOf [.v (.int .i64)] (fun ((n : Int), _) => .p (-1000000000 ≤ n ∧ n ≤ 1000000000)) (fun ((n : Int), _) => .int .i64 (if n < 0 then -n else n))
set_option maxHeartbeats 1000000 in
theorem sat_a2Size : Sat Tryd.prog 48 ct_a2Size := by
  refine sat_typed (C := C_TpB) (L := noL) (wr := false) mixedOk Tryd.func48 C_TpB_ok (loops0 (by kernel_rfl)) (fun _ => by first | rfl | (simp [ownsOf, ownsOf.ownsL, enc, encV, encS])) fun x hp => ?_
  obtain ⟨(n : Int), _⟩ := x
  replace hp : -1000000000 ≤ n ∧ n ≤ 1000000000 := hp
  have htree : exFunc Tryd.prog C_TpB false noL Tryd.f48 (encA [.v (.int .i64)] (n, ())) = .ite (decide (n < (0 : Int))) (.need (inK IntKind.i64 ((0 : Int) - n)) (.leaf [.int .i64 ((0 : Int) - n)])) (.leaf [.int .i64 (n)]) := by kernel_rfl
  refine (congrArg (Tree.ok _) htree).mpr ?_
  clear htree
  simp only [Tree.ok, tyd_inj, packAV, AV.same, AV.same.sameL, encV, encS, enc, inK, Nd.ok, List.headD_cons, List.cons_append, List.nil_append, List.append_nil, true_and, and_true, Bool.true_and, Bool.and_true]
  repeat' first | apply And.intro | intro _
  all_goals first | omega | (simp_all; done) | grind
def C_Tp_1 : FuncId → Option Ct := addC 48 ct_a2Size C_TpB
theorem C_Tp_1_ok : COk Tryd.prog C_Tp_1 := addC_ok C_TpB_ok sat_a2Size
theorem spell_good {key near : Int} (h0 : 12 ≤ key) (h1 : key ≤ 115) (h2 : -9 ≤ near) (h3 : near ≤ 13) : (spellI key near).2 = 0 ∧ okP (spellI key near).1.1 (spellI key near).1.2.1 (spellI key near).1.2.2 = true ∧ keyF (spellI key near).1.1 (spellI key near).1.2.1 (spellI key near).1.2.2 = key ∧
    (-6 ≤ fif7 (spellI key near).1.1 + 7 * (spellI key near).1.2.1 - near ∧ fif7 (spellI key near).1.1 + 7 * (spellI key near).1.2.1 - near ≤ 6) := by
  have hg := spGood_all key near h0 h1 h2 h3
  have e1 : inB key 0 127 = true := (inB_iff _ _ _).2 (by omega)
  have e2 : inB near (-20) 20 = true := (inB_iff _ _ _).2 (by omega)
  unfold spellI
  rw [if_pos ⟨e1, e2⟩]
  simp only [spGood, Bool.and_eq_true, beq_iff_eq, decide_eq_true_eq] at hg
  exact ⟨rfl, hg.1, hg.2.1, hg.2.2.2, hg.2.2.1⟩
def mvP (p : Int × Int × Int) (i j : Int) : (Int × Int × Int) × Int := moveF p.1 p.2.1 p.2.2 i j
theorem mvP_ok {p : Int × Int × Int} (hp : okP p.1 p.2.1 p.2.2 = true) {i j : Int} (hi : okI i j = true) (h : (mvP p i j).2 = 0) :
    okP (mvP p i j).1.1 (mvP p i j).1.2.1 (mvP p i j).1.2.2 = true ∧ 7 * (mvP p i j).1.2.2 + (mvP p i j).1.1 = 7 * p.2.2 + p.1 + i ∧ keyF (mvP p i j).1.1 (mvP p i j).1.2.1 (mvP p i j).1.2.2 = keyF p.1 p.2.1 p.2.2 + j := by
  unfold mvP moveF at h ⊢
  rw [if_pos ⟨hp, hi⟩] at h ⊢
  split at h
  · rename_i hk
    rw [if_pos hk]
    refine ⟨hk, ?_, ?_⟩
    · simp only [mvN]; omega
    · simp only [mvA, keyF]; omega
  · simp at h
def majN : List UInt8 := [109, 97, 106]
def minN : List UInt8 := [109, 105, 110]
theorem maj_words : chordT majN = some [77, 51, 32, 80, 53] := by decide
theorem min_words : chordT minN = some [109, 51, 32, 80, 53] := by decide
theorem maj_split : splitC 32 [77, 51, 32, 80, 53] = [[77, 51], [80, 53]] := by decide
theorem min_split : splitC 32 [109, 51, 32, 80, 53] = [[109, 51], [80, 53]] := by decide
theorem decT_d {n : Int} (h : 0 ≤ n ∧ n ≤ 9) : decT n = [UInt8.ofNat (48 + n.natAbs)] := by
  rcases itoa_cases n with ⟨h1, _⟩ | ⟨_, e⟩
  · omega
  · rw [e, Go.Lib.decDigits_one (by omega)]
/-- A name is read back, if no name of the same number stands ahead. -/
theorem read_M3 : orZ (outI [77, 51] 29 0) = (2, 4) := by
  have e3 : decT 3 = [51] := decT_d (by omega)
  have h1 : readD (tailN [77, 51]) = (3, true) := by
    have : tailN [77, 51] = decT 3 := by rw [e3]; decide
    rw [this]; exact readD_of ⟨by omega, by omega⟩
  rw [outI_eq, h1]
  simp only [inI, hitI, nameI, e3, show ((3 : Int) - 1) = 2 from rfl, show ((2 : Int) + 1) = 3 from rfl, show natF 2 = 4 from by decide]
  decide
theorem read_m3 : orZ (outI [109, 51] 29 0) = (2, 3) := by
  have e3 : decT 3 = [51] := decT_d (by omega)
  have h1 : readD (tailN [109, 51]) = (3, true) := by
    have : tailN [109, 51] = decT 3 := by rw [e3]; decide
    rw [this]; exact readD_of ⟨by omega, by omega⟩
  rw [outI_eq, h1]
  simp only [inI, hitI, nameI, e3, show ((3 : Int) - 1) = 2 from rfl, show ((2 : Int) + 1) = 3 from rfl, show natF 2 = 4 from by decide]
  decide
theorem read_P5 : orZ (outI [80, 53] 29 0) = (4, 7) := by
  have e3 : decT 5 = [53] := decT_d (by omega)
  have h1 : readD (tailN [80, 53]) = (5, true) := by
    have : tailN [80, 53] = decT 5 := by rw [e3]; decide
    rw [this]; exact readD_of ⟨by omega, by omega⟩
  rw [outI_eq, h1]
  simp only [inI, hitI, nameI, e3, show ((5 : Int) - 1) = 4 from rfl, show ((4 : Int) + 1) = 5 from rfl, show natF 4 = 7 from by decide]
  decide
theorem chord_of {p : Int × Int × Int} (hp : okP p.1 p.2.1 p.2.2 = true) {nm w1 w2 t : List UInt8} {i1 j1 i2 j2 : Int} (h1 : chordT nm = some t) (h2 : splitC 32 t = [w1, w2]) (h3 : orZ (outI w1 29 0) = (i1, j1)) (h4 : orZ (outI w2 29 0) = (i2, j2)) :
    chordF p nm = ([], 2) ∨ ((mvP p i1 j1).2 = 0 ∧ (mvP p i2 j2).2 = 0 ∧ chordF p nm = ([p, (mvP p i1 j1).1, (mvP p i2 j2).1], 0)) := by
  unfold chordF
  rw [if_pos hp, h1]
  simp only [h2, goC, h3, h4]
  by_cases g1 : (mvP p i1 j1).2 = 0
  · by_cases g2 : (mvP p i2 j2).2 = 0
    · refine .inr ⟨g1, g2, ?_⟩
      have g1' : (moveF p.1 p.2.1 p.2.2 i1 j1).2 = 0 := g1
      have g2' : (moveF p.1 p.2.1 p.2.2 i2 j2).2 = 0 := g2
      rw [if_pos g1', if_pos g2']
      rfl
    · have g1' : (moveF p.1 p.2.1 p.2.2 i1 j1).2 = 0 := g1
      have g2' : ¬ (moveF p.1 p.2.1 p.2.2 i2 j2).2 = 0 := g2
      rw [if_pos g1', if_neg g2']
      exact .inl rfl
  · have g1' : ¬ (moveF p.1 p.2.1 p.2.2 i1 j1).2 = 0 := g1
    rw [if_neg g1']
    exact .inl rfl
theorem bet_half {p q : Int × Int × Int} (hp : okP p.1 p.2.1 p.2.2 = true) (hq : okP q.1 q.2.1 q.2.2 = true) (h1 : 7 * q.2.2 + q.1 = 7 * p.2.2 + p.1) (h2 : keyF q.1 q.2.1 q.2.2 = keyF p.1 p.2.1 p.2.2 + 1) : betF p.1 p.2.1 p.2.2 q.1 q.2.1 q.2.2 = ((0, 1), 0) := by
  unfold betF
  rw [if_pos ⟨hp, hq⟩, show 7 * q.2.2 + q.1 - (7 * p.2.2 + p.1) = 0 by omega, show keyF q.1 q.2.1 q.2.2 - keyF p.1 p.2.1 p.2.2 = 1 by omega]
  decide
def ct_lawSpelled : Ct := ctOf [.v (.seq (.int .u8)), .v (.seq (.int .u8))] (fun ((code : List (Ty.int .u8).den), (more : List (Ty.int .u8).den), _) => .p (bytesOk code ∧ bytesOk more)) (fun ((code : List (Ty.int .u8).den), (more : List (Ty.int .u8).den), _) => .bool true)
set_option maxHeartbeats 1000000 in
theorem sat_lawSpelled : Sat Tryd.prog 11 ct_lawSpelled := by
  refine sat_typed (C := C_Tp_1) (L := noL) (wr := false) mixedOk Tryd.func11 C_Tp_1_ok (loops0 (by kernel_rfl)) (fun _ => by first | rfl | (simp [ownsOf, ownsOf.ownsL, enc, encV, encS])) fun x hp => ?_
  obtain ⟨(code : List (Ty.int .u8).den), (more : List (Ty.int .u8).den), _⟩ := x
  replace hp : bytesOk code ∧ bytesOk more := hp
  have htree : exFunc Tryd.prog C_Tp_1 false noL Tryd.f11 (encA [.v (.seq (.int .u8)), .v (.seq (.int .u8))] (code, more, ())) = .ite (decide ((3000 : Int) < (↑code.length : Int)) || decide ((3000 : Int) < (↑more.length : Int))) (.leaf [.lit true]) (.need (bytesOk more ∧ (0 : Int) ≤ (0 : Int)) (.need (inK IntKind.i64 ((12 : Int) + a2At more (0 : Int) (104 : Int))) (.need (bytesOk more ∧ (0 : Int) ≤ (1 : Int)) (.need (inK IntKind.i64 (a2At more (1 : Int) (23 : Int) - (9 : Int))) (.ite ((spellI ((12 : Int) + a2At more (0 : Int) (104 : Int)) (a2At more (1 : Int) (23 : Int) - (9 : Int))).snd != (0 : Int)) (.leaf [.lit false]) (.ite ((if okP (spellI ((12 : Int) + a2At more (0 : Int) (104 : Int)) (a2At more (1 : Int) (23 : Int) - (9 : Int))).fst.fst (spellI ((12 : Int) + a2At more (0 : Int) (104 : Int)) (a2At more (1 : Int) (23 : Int) - (9 : Int))).fst.snd.fst (spellI ((12 : Int) + a2At more (0 : Int) (104 : Int)) (a2At more (1 : Int) (23 : Int) - (9 : Int))).fst.snd.snd = true then (0 : Int) else (1 : Int)) != (0 : Int)) (.leaf [.lit false]) (.ite ((if okP (spellI ((12 : Int) + a2At more (0 : Int) (104 : Int)) (a2At more (1 : Int) (23 : Int) - (9 : Int))).fst.fst (spellI ((12 : Int) + a2At more (0 : Int) (104 : Int)) (a2At more (1 : Int) (23 : Int) - (9 : Int))).fst.snd.fst (spellI ((12 : Int) + a2At more (0 : Int) (104 : Int)) (a2At more (1 : Int) (23 : Int) - (9 : Int))).fst.snd.snd = true then keyF (spellI ((12 : Int) + a2At more (0 : Int) (104 : Int)) (a2At more (1 : Int) (23 : Int) - (9 : Int))).fst.fst (spellI ((12 : Int) + a2At more (0 : Int) (104 : Int)) (a2At more (1 : Int) (23 : Int) - (9 : Int))).fst.snd.fst (spellI ((12 : Int) + a2At more (0 : Int) (104 : Int)) (a2At more (1 : Int) (23 : Int) - (9 : Int))).fst.snd.snd else (-1 : Int)) != (12 : Int) + a2At more (0 : Int) (104 : Int)) (.leaf [.lit false]) (.need (inK IntKind.i64 ((if okP (spellI ((12 : Int) + a2At more (0 : Int) (104 : Int)) (a2At more (1 : Int) (23 : Int) - (9 : Int))).fst.fst (spellI ((12 : Int) + a2At more (0 : Int) (104 : Int)) (a2At more (1 : Int) (23 : Int) - (9 : Int))).fst.snd.fst (spellI ((12 : Int) + a2At more (0 : Int) (104 : Int)) (a2At more (1 : Int) (23 : Int) - (9 : Int))).fst.snd.snd = true then fif7 (spellI ((12 : Int) + a2At more (0 : Int) (104 : Int)) (a2At more (1 : Int) (23 : Int) - (9 : Int))).fst.fst + (7 : Int) * (spellI ((12 : Int) + a2At more (0 : Int) (104 : Int)) (a2At more (1 : Int) (23 : Int) - (9 : Int))).fst.snd.fst else (0 : Int)) - (a2At more (1 : Int) (23 : Int) - (9 : Int)))) (.need ((-1000000000 : Int) ≤ (if okP (spellI ((12 : Int) + a2At more (0 : Int) (104 : Int)) (a2At more (1 : Int) (23 : Int) - (9 : Int))).fst.fst (spellI ((12 : Int) + a2At more (0 : Int) (104 : Int)) (a2At more (1 : Int) (23 : Int) - (9 : Int))).fst.snd.fst (spellI ((12 : Int) + a2At more (0 : Int) (104 : Int)) (a2At more (1 : Int) (23 : Int) - (9 : Int))).fst.snd.snd = true then fif7 (spellI ((12 : Int) + a2At more (0 : Int) (104 : Int)) (a2At more (1 : Int) (23 : Int) - (9 : Int))).fst.fst + (7 : Int) * (spellI ((12 : Int) + a2At more (0 : Int) (104 : Int)) (a2At more (1 : Int) (23 : Int) - (9 : Int))).fst.snd.fst else (0 : Int)) - (a2At more (1 : Int) (23 : Int) - (9 : Int)) ∧ (if okP (spellI ((12 : Int) + a2At more (0 : Int) (104 : Int)) (a2At more (1 : Int) (23 : Int) - (9 : Int))).fst.fst (spellI ((12 : Int) + a2At more (0 : Int) (104 : Int)) (a2At more (1 : Int) (23 : Int) - (9 : Int))).fst.snd.fst (spellI ((12 : Int) + a2At more (0 : Int) (104 : Int)) (a2At more (1 : Int) (23 : Int) - (9 : Int))).fst.snd.snd = true then fif7 (spellI ((12 : Int) + a2At more (0 : Int) (104 : Int)) (a2At more (1 : Int) (23 : Int) - (9 : Int))).fst.fst + (7 : Int) * (spellI ((12 : Int) + a2At more (0 : Int) (104 : Int)) (a2At more (1 : Int) (23 : Int) - (9 : Int))).fst.snd.fst else (0 : Int)) - (a2At more (1 : Int) (23 : Int) - (9 : Int)) ≤ (1000000000 : Int)) (.ite (decide ((6 : Int) < if (if okP (spellI ((12 : Int) + a2At more (0 : Int) (104 : Int)) (a2At more (1 : Int) (23 : Int) - (9 : Int))).fst.fst (spellI ((12 : Int) + a2At more (0 : Int) (104 : Int)) (a2At more (1 : Int) (23 : Int) - (9 : Int))).fst.snd.fst (spellI ((12 : Int) + a2At more (0 : Int) (104 : Int)) (a2At more (1 : Int) (23 : Int) - (9 : Int))).fst.snd.snd = true then fif7 (spellI ((12 : Int) + a2At more (0 : Int) (104 : Int)) (a2At more (1 : Int) (23 : Int) - (9 : Int))).fst.fst + (7 : Int) * (spellI ((12 : Int) + a2At more (0 : Int) (104 : Int)) (a2At more (1 : Int) (23 : Int) - (9 : Int))).fst.snd.fst else (0 : Int)) - (a2At more (1 : Int) (23 : Int) - (9 : Int)) < (0 : Int) then -((if okP (spellI ((12 : Int) + a2At more (0 : Int) (104 : Int)) (a2At more (1 : Int) (23 : Int) - (9 : Int))).fst.fst (spellI ((12 : Int) + a2At more (0 : Int) (104 : Int)) (a2At more (1 : Int) (23 : Int) - (9 : Int))).fst.snd.fst (spellI ((12 : Int) + a2At more (0 : Int) (104 : Int)) (a2At more (1 : Int) (23 : Int) - (9 : Int))).fst.snd.snd = true then fif7 (spellI ((12 : Int) + a2At more (0 : Int) (104 : Int)) (a2At more (1 : Int) (23 : Int) - (9 : Int))).fst.fst + (7 : Int) * (spellI ((12 : Int) + a2At more (0 : Int) (104 : Int)) (a2At more (1 : Int) (23 : Int) - (9 : Int))).fst.snd.fst else (0 : Int)) - (a2At more (1 : Int) (23 : Int) - (9 : Int))) else (if okP (spellI ((12 : Int) + a2At more (0 : Int) (104 : Int)) (a2At more (1 : Int) (23 : Int) - (9 : Int))).fst.fst (spellI ((12 : Int) + a2At more (0 : Int) (104 : Int)) (a2At more (1 : Int) (23 : Int) - (9 : Int))).fst.snd.fst (spellI ((12 : Int) + a2At more (0 : Int) (104 : Int)) (a2At more (1 : Int) (23 : Int) - (9 : Int))).fst.snd.snd = true then fif7 (spellI ((12 : Int) + a2At more (0 : Int) (104 : Int)) (a2At more (1 : Int) (23 : Int) - (9 : Int))).fst.fst + (7 : Int) * (spellI ((12 : Int) + a2At more (0 : Int) (104 : Int)) (a2At more (1 : Int) (23 : Int) - (9 : Int))).fst.snd.fst else (0 : Int)) - (a2At more (1 : Int) (23 : Int) - (9 : Int)))) (.leaf [.lit false]) (.need (bytesOk code) (.ite ((chordF ((pit1 code).fst, (pit1 code).snd.fst, (pit1 code).snd.snd) #[(109 : UInt8), (97 : UInt8), (106 : UInt8)].toList).snd != (0 : Int)) (.ite ((chordF ((pit1 code).fst, (pit1 code).snd.fst, (pit1 code).snd.snd) #[(109 : UInt8), (97 : UInt8), (106 : UInt8)].toList).snd == (0 : Int)) (.ite ((chordF ((pit1 code).fst, (pit1 code).snd.fst, (pit1 code).snd.snd) #[(109 : UInt8), (105 : UInt8), (110 : UInt8)].toList).snd == (0 : Int)) (.leaf [.lit true]) (.leaf [.bool ((chordF ((pit1 code).fst, (pit1 code).snd.fst, (pit1 code).snd.snd) #[(109 : UInt8), (105 : UInt8), (110 : UInt8)].toList).snd == (2 : Int))])) (.ite ((chordF ((pit1 code).fst, (pit1 code).snd.fst, (pit1 code).snd.snd) #[(109 : UInt8), (97 : UInt8), (106 : UInt8)].toList).snd == (2 : Int)) (.ite ((chordF ((pit1 code).fst, (pit1 code).snd.fst, (pit1 code).snd.snd) #[(109 : UInt8), (105 : UInt8), (110 : UInt8)].toList).snd == (0 : Int)) (.leaf [.lit true]) (.leaf [.bool ((chordF ((pit1 code).fst, (pit1 code).snd.fst, (pit1 code).snd.snd) #[(109 : UInt8), (105 : UInt8), (110 : UInt8)].toList).snd == (2 : Int))])) (.leaf [.lit false]))) (.ite ((chordF ((pit1 code).fst, (pit1 code).snd.fst, (pit1 code).snd.snd) #[(109 : UInt8), (105 : UInt8), (110 : UInt8)].toList).snd != (0 : Int)) (.ite ((chordF ((pit1 code).fst, (pit1 code).snd.fst, (pit1 code).snd.snd) #[(109 : UInt8), (97 : UInt8), (106 : UInt8)].toList).snd == (0 : Int)) (.ite ((chordF ((pit1 code).fst, (pit1 code).snd.fst, (pit1 code).snd.snd) #[(109 : UInt8), (105 : UInt8), (110 : UInt8)].toList).snd == (0 : Int)) (.leaf [.lit true]) (.leaf [.bool ((chordF ((pit1 code).fst, (pit1 code).snd.fst, (pit1 code).snd.snd) #[(109 : UInt8), (105 : UInt8), (110 : UInt8)].toList).snd == (2 : Int))])) (.ite ((chordF ((pit1 code).fst, (pit1 code).snd.fst, (pit1 code).snd.snd) #[(109 : UInt8), (97 : UInt8), (106 : UInt8)].toList).snd == (2 : Int)) (.ite ((chordF ((pit1 code).fst, (pit1 code).snd.fst, (pit1 code).snd.snd) #[(109 : UInt8), (105 : UInt8), (110 : UInt8)].toList).snd == (0 : Int)) (.leaf [.lit true]) (.leaf [.bool ((chordF ((pit1 code).fst, (pit1 code).snd.fst, (pit1 code).snd.snd) #[(109 : UInt8), (105 : UInt8), (110 : UInt8)].toList).snd == (2 : Int))])) (.leaf [.lit false]))) (.ite ((↑(chordF ((pit1 code).fst, (pit1 code).snd.fst, (pit1 code).snd.snd) #[(109 : UInt8), (97 : UInt8), (106 : UInt8)].toList).fst.length : Int) != (3 : Int)) (.leaf [.lit false]) (.ite ((↑(chordF ((pit1 code).fst, (pit1 code).snd.fst, (pit1 code).snd.snd) #[(109 : UInt8), (105 : UInt8), (110 : UInt8)].toList).fst.length : Int) != (3 : Int)) (.leaf [.lit false]) (.need ((0 : Int) ≤ (0 : Int) ∧ (0 : Int) < (↑(chordF ((pit1 code).fst, (pit1 code).snd.fst, (pit1 code).snd.snd) #[(109 : UInt8), (97 : UInt8), (106 : UInt8)].toList).fst.length : Int)) (.need (Int.toNat (0 : Int) < (chordF ((pit1 code).fst, (pit1 code).snd.fst, (pit1 code).snd.snd) #[(109 : UInt8), (97 : UInt8), (106 : UInt8)].toList).fst.length) (.ite (!(((chordF ((pit1 code).fst, (pit1 code).snd.fst, (pit1 code).snd.snd) #[(109 : UInt8), (97 : UInt8), (106 : UInt8)].toList).fst.getD (Int.toNat (0 : Int)) tPitch.zero).fst == (pit1 code).fst && (((chordF ((pit1 code).fst, (pit1 code).snd.fst, (pit1 code).snd.snd) #[(109 : UInt8), (97 : UInt8), (106 : UInt8)].toList).fst.getD (Int.toNat (0 : Int)) tPitch.zero).snd.fst == (pit1 code).snd.fst && ((chordF ((pit1 code).fst, (pit1 code).snd.fst, (pit1 code).snd.snd) #[(109 : UInt8), (97 : UInt8), (106 : UInt8)].toList).fst.getD (Int.toNat (0 : Int)) tPitch.zero).snd.snd == (pit1 code).snd.snd))) (.leaf [.lit false]) (.need ((0 : Int) ≤ (2 : Int) ∧ (2 : Int) < (↑(chordF ((pit1 code).fst, (pit1 code).snd.fst, (pit1 code).snd.snd) #[(109 : UInt8), (105 : UInt8), (110 : UInt8)].toList).fst.length : Int)) (.need (Int.toNat (2 : Int) < (chordF ((pit1 code).fst, (pit1 code).snd.fst, (pit1 code).snd.snd) #[(109 : UInt8), (105 : UInt8), (110 : UInt8)].toList).fst.length) (.need ((0 : Int) ≤ (2 : Int) ∧ (2 : Int) < (↑(chordF ((pit1 code).fst, (pit1 code).snd.fst, (pit1 code).snd.snd) #[(109 : UInt8), (97 : UInt8), (106 : UInt8)].toList).fst.length : Int)) (.need (Int.toNat (2 : Int) < (chordF ((pit1 code).fst, (pit1 code).snd.fst, (pit1 code).snd.snd) #[(109 : UInt8), (97 : UInt8), (106 : UInt8)].toList).fst.length) (.ite (!(((chordF ((pit1 code).fst, (pit1 code).snd.fst, (pit1 code).snd.snd) #[(109 : UInt8), (105 : UInt8), (110 : UInt8)].toList).fst.getD (Int.toNat (2 : Int)) tPitch.zero).fst == ((chordF ((pit1 code).fst, (pit1 code).snd.fst, (pit1 code).snd.snd) #[(109 : UInt8), (97 : UInt8), (106 : UInt8)].toList).fst.getD (Int.toNat (2 : Int)) tPitch.zero).fst && (((chordF ((pit1 code).fst, (pit1 code).snd.fst, (pit1 code).snd.snd) #[(109 : UInt8), (105 : UInt8), (110 : UInt8)].toList).fst.getD (Int.toNat (2 : Int)) tPitch.zero).snd.fst == ((chordF ((pit1 code).fst, (pit1 code).snd.fst, (pit1 code).snd.snd) #[(109 : UInt8), (97 : UInt8), (106 : UInt8)].toList).fst.getD (Int.toNat (2 : Int)) tPitch.zero).snd.fst && ((chordF ((pit1 code).fst, (pit1 code).snd.fst, (pit1 code).snd.snd) #[(109 : UInt8), (105 : UInt8), (110 : UInt8)].toList).fst.getD (Int.toNat (2 : Int)) tPitch.zero).snd.snd == ((chordF ((pit1 code).fst, (pit1 code).snd.fst, (pit1 code).snd.snd) #[(109 : UInt8), (97 : UInt8), (106 : UInt8)].toList).fst.getD (Int.toNat (2 : Int)) tPitch.zero).snd.snd))) (.leaf [.lit false]) (.need ((0 : Int) ≤ (1 : Int) ∧ (1 : Int) < (↑(chordF ((pit1 code).fst, (pit1 code).snd.fst, (pit1 code).snd.snd) #[(109 : UInt8), (105 : UInt8), (110 : UInt8)].toList).fst.length : Int)) (.need (Int.toNat (1 : Int) < (chordF ((pit1 code).fst, (pit1 code).snd.fst, (pit1 code).snd.snd) #[(109 : UInt8), (105 : UInt8), (110 : UInt8)].toList).fst.length) (.need ((0 : Int) ≤ (1 : Int) ∧ (1 : Int) < (↑(chordF ((pit1 code).fst, (pit1 code).snd.fst, (pit1 code).snd.snd) #[(109 : UInt8), (97 : UInt8), (106 : UInt8)].toList).fst.length : Int)) (.need (Int.toNat (1 : Int) < (chordF ((pit1 code).fst, (pit1 code).snd.fst, (pit1 code).snd.snd) #[(109 : UInt8), (97 : UInt8), (106 : UInt8)].toList).fst.length) (.ite ((betF ((chordF ((pit1 code).fst, (pit1 code).snd.fst, (pit1 code).snd.snd) #[(109 : UInt8), (105 : UInt8), (110 : UInt8)].toList).fst.getD (Int.toNat (1 : Int)) tPitch.zero).fst ((chordF ((pit1 code).fst, (pit1 code).snd.fst, (pit1 code).snd.snd) #[(109 : UInt8), (105 : UInt8), (110 : UInt8)].toList).fst.getD (Int.toNat (1 : Int)) tPitch.zero).snd.fst ((chordF ((pit1 code).fst, (pit1 code).snd.fst, (pit1 code).snd.snd) #[(109 : UInt8), (105 : UInt8), (110 : UInt8)].toList).fst.getD (Int.toNat (1 : Int)) tPitch.zero).snd.snd ((chordF ((pit1 code).fst, (pit1 code).snd.fst, (pit1 code).snd.snd) #[(109 : UInt8), (97 : UInt8), (106 : UInt8)].toList).fst.getD (Int.toNat (1 : Int)) tPitch.zero).fst ((chordF ((pit1 code).fst, (pit1 code).snd.fst, (pit1 code).snd.snd) #[(109 : UInt8), (97 : UInt8), (106 : UInt8)].toList).fst.getD (Int.toNat (1 : Int)) tPitch.zero).snd.fst ((chordF ((pit1 code).fst, (pit1 code).snd.fst, (pit1 code).snd.snd) #[(109 : UInt8), (97 : UInt8), (106 : UInt8)].toList).fst.getD (Int.toNat (1 : Int)) tPitch.zero).snd.snd).snd == (0 : Int)) (.ite ((betF ((chordF ((pit1 code).fst, (pit1 code).snd.fst, (pit1 code).snd.snd) #[(109 : UInt8), (105 : UInt8), (110 : UInt8)].toList).fst.getD (Int.toNat (1 : Int)) tPitch.zero).fst ((chordF ((pit1 code).fst, (pit1 code).snd.fst, (pit1 code).snd.snd) #[(109 : UInt8), (105 : UInt8), (110 : UInt8)].toList).fst.getD (Int.toNat (1 : Int)) tPitch.zero).snd.fst ((chordF ((pit1 code).fst, (pit1 code).snd.fst, (pit1 code).snd.snd) #[(109 : UInt8), (105 : UInt8), (110 : UInt8)].toList).fst.getD (Int.toNat (1 : Int)) tPitch.zero).snd.snd ((chordF ((pit1 code).fst, (pit1 code).snd.fst, (pit1 code).snd.snd) #[(109 : UInt8), (97 : UInt8), (106 : UInt8)].toList).fst.getD (Int.toNat (1 : Int)) tPitch.zero).fst ((chordF ((pit1 code).fst, (pit1 code).snd.fst, (pit1 code).snd.snd) #[(109 : UInt8), (97 : UInt8), (106 : UInt8)].toList).fst.getD (Int.toNat (1 : Int)) tPitch.zero).snd.fst ((chordF ((pit1 code).fst, (pit1 code).snd.fst, (pit1 code).snd.snd) #[(109 : UInt8), (97 : UInt8), (106 : UInt8)].toList).fst.getD (Int.toNat (1 : Int)) tPitch.zero).snd.snd).fst.fst == (0 : Int)) (.ite ((betF ((chordF ((pit1 code).fst, (pit1 code).snd.fst, (pit1 code).snd.snd) #[(109 : UInt8), (105 : UInt8), (110 : UInt8)].toList).fst.getD (Int.toNat (1 : Int)) tPitch.zero).fst ((chordF ((pit1 code).fst, (pit1 code).snd.fst, (pit1 code).snd.snd) #[(109 : UInt8), (105 : UInt8), (110 : UInt8)].toList).fst.getD (Int.toNat (1 : Int)) tPitch.zero).snd.fst ((chordF ((pit1 code).fst, (pit1 code).snd.fst, (pit1 code).snd.snd) #[(109 : UInt8), (105 : UInt8), (110 : UInt8)].toList).fst.getD (Int.toNat (1 : Int)) tPitch.zero).snd.snd ((chordF ((pit1 code).fst, (pit1 code).snd.fst, (pit1 code).snd.snd) #[(109 : UInt8), (97 : UInt8), (106 : UInt8)].toList).fst.getD (Int.toNat (1 : Int)) tPitch.zero).fst ((chordF ((pit1 code).fst, (pit1 code).snd.fst, (pit1 code).snd.snd) #[(109 : UInt8), (97 : UInt8), (106 : UInt8)].toList).fst.getD (Int.toNat (1 : Int)) tPitch.zero).snd.fst ((chordF ((pit1 code).fst, (pit1 code).snd.fst, (pit1 code).snd.snd) #[(109 : UInt8), (97 : UInt8), (106 : UInt8)].toList).fst.getD (Int.toNat (1 : Int)) tPitch.zero).snd.snd).fst.snd == (1 : Int)) (.need ((0 : Int) ≤ (2 : Int) ∧ (2 : Int) < (↑(chordF ((pit1 code).fst, (pit1 code).snd.fst, (pit1 code).snd.snd) #[(109 : UInt8), (97 : UInt8), (106 : UInt8)].toList).fst.length : Int)) (.need (Int.toNat (2 : Int) < (chordF ((pit1 code).fst, (pit1 code).snd.fst, (pit1 code).snd.snd) #[(109 : UInt8), (97 : UInt8), (106 : UInt8)].toList).fst.length) (.need (inK IntKind.i64 ((if okP (pit1 code).fst (pit1 code).snd.fst (pit1 code).snd.snd = true then keyF (pit1 code).fst (pit1 code).snd.fst (pit1 code).snd.snd else (-1 : Int)) + (7 : Int))) (.leaf [.bool ((if okP ((chordF ((pit1 code).fst, (pit1 code).snd.fst, (pit1 code).snd.snd) #[(109 : UInt8), (97 : UInt8), (106 : UInt8)].toList).fst.getD (Int.toNat (2 : Int)) tPitch.zero).fst ((chordF ((pit1 code).fst, (pit1 code).snd.fst, (pit1 code).snd.snd) #[(109 : UInt8), (97 : UInt8), (106 : UInt8)].toList).fst.getD (Int.toNat (2 : Int)) tPitch.zero).snd.fst ((chordF ((pit1 code).fst, (pit1 code).snd.fst, (pit1 code).snd.snd) #[(109 : UInt8), (97 : UInt8), (106 : UInt8)].toList).fst.getD (Int.toNat (2 : Int)) tPitch.zero).snd.snd = true then keyF ((chordF ((pit1 code).fst, (pit1 code).snd.fst, (pit1 code).snd.snd) #[(109 : UInt8), (97 : UInt8), (106 : UInt8)].toList).fst.getD (Int.toNat (2 : Int)) tPitch.zero).fst ((chordF ((pit1 code).fst, (pit1 code).snd.fst, (pit1 code).snd.snd) #[(109 : UInt8), (97 : UInt8), (106 : UInt8)].toList).fst.getD (Int.toNat (2 : Int)) tPitch.zero).snd.fst ((chordF ((pit1 code).fst, (pit1 code).snd.fst, (pit1 code).snd.snd) #[(109 : UInt8), (97 : UInt8), (106 : UInt8)].toList).fst.getD (Int.toNat (2 : Int)) tPitch.zero).snd.snd else (-1 : Int)) == (if okP (pit1 code).fst (pit1 code).snd.fst (pit1 code).snd.snd = true then keyF (pit1 code).fst (pit1 code).snd.fst (pit1 code).snd.snd else (-1 : Int)) + (7 : Int))])))) (.leaf [.lit false])) (.leaf [.lit false])) (.leaf [.lit false]))))))))))))))))))))))))))))) := by kernel_rfl
  refine (congrArg (Tree.ok _) htree).mpr ?_
  clear htree
  obtain ⟨hp1, hp2⟩ := hp
  have a0 := a2At_bd hp2 (i := 0) (by omega) 104
  have a1 := a2At_bd hp2 (i := 1) (by omega) 23
  have a0' := a0.2 (by omega)
  have a1' := a1.2 (by omega)
  have hg := spell_good (key := 12 + a2At more 0 104) (near := a2At more 1 23 - 9) (by omega) (by omega) (by omega) (by omega)
  have hroot : okP (pit1 code).1 (pit1 code).2.1 (pit1 code).2.2 = true := pitS_bd _
  have s1 : #[(109 : UInt8), (97 : UInt8), (106 : UInt8)].toList = majN := rfl
  have s2 : #[(109 : UInt8), (105 : UInt8), (110 : UInt8)].toList = minN := rfl
  have hz : ∀ z : Int × Int × Int, (z.1, z.2.1, z.2.2) = z := fun _ => rfl
  simp only [Tree.ok, tyd_inj, packAV, AV.same, AV.same.sameL, encV, encS, enc, inK, Nd.ok, List.headD_cons, List.cons_append, List.nil_append, List.append_nil, true_and, and_true, Bool.true_and, Bool.and_true, s1, s2, hz]
  generalize a2At more 0 104 = k at *
  generalize a2At more 1 23 = r at *
  have hkd : -9223372036854775808 ≤ 12 + k ∧ 12 + k ≤ 9223372036854775807 := by omega
  generalize spellI (12 + k) (r - 9) = q at *
  obtain ⟨⟨q1, q2, q3⟩, qc⟩ := q
  simp only at hg
  obtain ⟨rfl, hq, hqk, hqn⟩ := hg
  have hqb := okP_bd hq
  generalize hpp : pit1 code = p at *
  have hM := chord_of hroot maj_words maj_split read_M3 read_P5
  have hN := chord_of hroot min_words min_split read_m3 read_P5
  have hrb := okP_bd hroot
  unfold majN at hM
  unfold minN at hN
  simp only [hq, if_true, hqk, hroot]
  generalize fif7 q1 + 7 * q2 = f at *
  have hsz : ¬ (6 < if f - (r - 9) < 0 then -(f - (r - 9)) else f - (r - 9)) := by split <;> omega
  simp only [hsz]
  have hab : ∀ z : Int, -1000000000 ≤ z → z ≤ 1000000000 → inK IntKind.i64 z := fun z _ _ => by simp only [inK]; omega
  have c1 := mvP_ok hroot (i := 2) (j := 4) (by decide)
  have c2 := mvP_ok hroot (i := 4) (j := 7) (by decide)
  have c3 := mvP_ok hroot (i := 2) (j := 3) (by decide)
  rcases hM with hM | ⟨m1, m2, hM⟩ <;> rcases hN with hN | ⟨n1, n2, hN⟩ <;> rw [hM, hN]
  · clear c1 c2 c3
    repeat' first | apply And.intro | intro _
    all_goals first | omega | exact hp1 | exact hp2 | exact hp1 _ ‹_› | exact hp2 _ ‹_› | exact (hp1 _ ‹_›).1 | exact (hp1 _ ‹_›).2 | exact (hp2 _ ‹_›).1 | exact (hp2 _ ‹_›).2 | exact hab _ (by omega) (by omega) | trivial | rfl | contradiction | (simp_all; done) | (trace_state; fail)
  · clear c1 c2 c3
    repeat' first | apply And.intro | intro _
    all_goals first | omega | exact hp1 | exact hp2 | exact hp1 _ ‹_› | exact hp2 _ ‹_› | exact (hp1 _ ‹_›).1 | exact (hp1 _ ‹_›).2 | exact (hp2 _ ‹_›).1 | exact (hp2 _ ‹_›).2 | exact hab _ (by omega) (by omega) | trivial | rfl | contradiction | (simp_all; done) | (trace_state; fail)
  · clear c1 c2 c3
    repeat' first | apply And.intro | intro _
    all_goals first | omega | exact hp1 | exact hp2 | exact hp1 _ ‹_› | exact hp2 _ ‹_› | exact (hp1 _ ‹_›).1 | exact (hp1 _ ‹_›).2 | exact (hp2 _ ‹_›).1 | exact (hp2 _ ‹_›).2 | exact hab _ (by omega) (by omega) | trivial | rfl | contradiction | (simp_all; done) | (trace_state; fail)
  · have c1 := c1 m1
    have c2 := c2 m2
    have c3 := c3 n1
    have hb := bet_half c3.1 c1.1 (by omega) (by omega)
    clear hM hN m1 m2 n1 n2 hz hpp
    generalize (mvP p 2 4).1 = u at *
    generalize (mvP p 4 7).1 = v at *
    generalize (mvP p 2 3).1 = w at *
    have g0 : ∀ x y z : Int × Int × Int, [x, y, z].getD (Int.toNat 0) tPitch.zero = x := fun _ _ _ => rfl
    have g1 : ∀ x y z : Int × Int × Int, [x, y, z].getD (Int.toNat 1) tPitch.zero = y := fun _ _ _ => rfl
    have g2 : ∀ x y z : Int × Int × Int, [x, y, z].getD (Int.toNat 2) tPitch.zero = z := fun _ _ _ => rfl
    simp only [g0, g1, g2, hb, c2.1, c2.2.2, if_true, List.length_cons, List.length_nil]
    repeat' first | apply And.intro | intro _
    all_goals first | omega | exact hp1 | exact hp2 | exact (hp1 _ ‹_›).1 | exact (hp1 _ ‹_›).2 | exact (hp2 _ ‹_›).1 | exact (hp2 _ ‹_›).2 | exact hab _ (by omega) (by omega) | trivial | rfl | contradiction | (simp_all; done) | (trace_state; fail)
def C_Tp_2 : FuncId → Option Ct := addC 11 ct_lawSpelled C_Tp_1
theorem C_Tp_2_ok : COk Tryd.prog C_Tp_2 := addC_ok C_Tp_1_ok sat_lawSpelled

def C_Tp : FuncId → Option Ct := C_Tp_2
theorem C_Tp_ok : COk Tryd.prog C_Tp := C_Tp_2_ok
end Go.Proofs.YtkeckmdmmbeaiaaDoor
