/-
  DERIVED. GIVEN WITH THE SEED: THE CARDS: each row of YtkeckmdmmbeaiaaDoorRows.lean that lists a variable, with what it lists TIED to the program's text (the seventh form; the later family's looks); each row that meets fmt, with fmt's text TOLD by the authors' own Lean function (tested against real Go, not proved from fmt's source: count such statements apart). THE CARD IS WHAT COUNTS. Prove the row's statement (the work); the ties are given (YtkeckmdmmbeaiaaDoorTie.lean); close each card by the builder's one call (the guide's Derived/Test/ToyasCard.lean, 'card_holds'). Laid BY PROGRAM, IN A SANDBOX (cutbox-door.mjs). By AI agents, Wed Nov 11 2026. No macro, syntax, notation, axiom, sorry.
-/
import Derived.Test.YtkeckmdmmbeaiaaDoorRows
import GoSem.ClaimSeven
namespace Go.Proofs.YtkeckmdmmbeaiaaDoor
namespace Rows

/-- THE TIED CARD OF 'laws.FnExactPitchText'. -/
def fnExactPitchTextCard : Claim7 := { stood := { row := fnExactPitchTextRow, standIns := [], harness := (true, "8af840decd32bdc1ad548c06a5463897860d5aceb15ba7733476607b4f1da760"), looks := true }, kinds := [], alts := [], laidByText := true, laidKinds := [.data, .data, .data], laidTests := true, laidLooks := .later }
def FnExactPitchTextCardSaid : Prop := Claim7.holds Tryd.pinned (.plain (OpenSpec.ofChange fnExactPitchTextSpec)) fnExactPitchTextCard

/-- THE TIED CARD OF 'laws.FnExactIntervalName'. -/
def fnExactIntervalNameCard : Claim7 := { stood := { row := fnExactIntervalNameRow, standIns := [], harness := (true, "8af840decd32bdc1ad548c06a5463897860d5aceb15ba7733476607b4f1da760"), looks := true }, kinds := [], alts := [], laidByText := true, laidKinds := [.data, .data, .data], laidTests := true, laidLooks := .later }
def FnExactIntervalNameCardSaid : Prop := Claim7.holds Tryd.pinned (.plain (OpenSpec.ofChange fnExactIntervalNameSpec)) fnExactIntervalNameCard

/-- THE TIED CARD OF 'laws.FnExactTuningText'. -/
def fnExactTuningTextCard : Claim7 := { stood := { row := fnExactTuningTextRow, standIns := [], harness := (true, "8af840decd32bdc1ad548c06a5463897860d5aceb15ba7733476607b4f1da760"), looks := true }, kinds := [], alts := [], laidByText := true, laidKinds := [.data, .data, .data], laidTests := true, laidLooks := .later }
def FnExactTuningTextCardSaid : Prop := Claim7.holds Tryd.pinned (.plain (OpenSpec.ofChange fnExactTuningTextSpec)) fnExactTuningTextCard

/-- THE TIED CARD OF 'laws.FnExactTempoText'. -/
def fnExactTempoTextCard : Claim7 := { stood := { row := fnExactTempoTextRow, standIns := [], harness := (true, "8af840decd32bdc1ad548c06a5463897860d5aceb15ba7733476607b4f1da760"), looks := true }, kinds := [], alts := [], laidByText := true, laidKinds := [.data, .data, .data], laidTests := true, laidLooks := .later }
def FnExactTempoTextCardSaid : Prop := Claim7.holds Tryd.pinned (.plain (OpenSpec.ofChange fnExactTempoTextSpec)) fnExactTempoTextCard

/-- THE TIED CARD OF 'laws.FnExactReadInterval'. -/
def fnExactReadIntervalCard : Claim7 := { stood := { row := fnExactReadIntervalRow, standIns := [], harness := (true, "8af840decd32bdc1ad548c06a5463897860d5aceb15ba7733476607b4f1da760"), looks := true }, kinds := [], alts := [], laidByText := true, laidKinds := [.data, .data, .data], laidTests := true, laidLooks := .later }
def FnExactReadIntervalCardSaid : Prop := Claim7.holds Tryd.pinned (.plain (OpenSpec.ofChange fnExactReadIntervalSpec)) fnExactReadIntervalCard

/-- THE TIED CARD OF 'laws.FnExactChordPitches'. -/
def fnExactChordPitchesCard : Claim7 := { stood := { row := fnExactChordPitchesRow, standIns := [], harness := (true, "8af840decd32bdc1ad548c06a5463897860d5aceb15ba7733476607b4f1da760"), looks := true }, kinds := [], alts := [], laidByText := true, laidKinds := [.data, .data, .data, .data, .pinned], laidTests := true, laidLooks := .later }
def FnExactChordPitchesCardSaid : Prop := Claim7.holds Tryd.pinned (.plain (OpenSpec.ofChange fnExactChordPitchesSpec)) fnExactChordPitchesCard

/-- THE TIED CARD OF 'laws.FnExactReadPitch'. -/
def fnExactReadPitchCard : Claim7 := { stood := { row := fnExactReadPitchRow, standIns := [], harness := (true, "8af840decd32bdc1ad548c06a5463897860d5aceb15ba7733476607b4f1da760"), looks := true }, kinds := [], alts := [], laidByText := true, laidKinds := [.data, .data, .data, .data, .sentinel, .sentinel, .pinned], laidTests := true, laidLooks := .later }
def FnExactReadPitchCardSaid : Prop := Claim7.holds Tryd.pinned (.plain (OpenSpec.ofChange fnExactReadPitchSpec)) fnExactReadPitchCard

/-- THE TIED CARD OF 'laws.FnExactReadTuning'. -/
def fnExactReadTuningCard : Claim7 := { stood := { row := fnExactReadTuningRow, standIns := [], harness := (true, "8af840decd32bdc1ad548c06a5463897860d5aceb15ba7733476607b4f1da760"), looks := true }, kinds := [], alts := [], laidByText := true, laidKinds := [.data, .data, .data, .data, .sentinel, .sentinel, .pinned], laidTests := true, laidLooks := .later }
def FnExactReadTuningCardSaid : Prop := Claim7.holds Tryd.pinned (.plain (OpenSpec.ofChange fnExactReadTuningSpec)) fnExactReadTuningCard

/-- THE TIED CARD OF 'laws.FnSpelled'. -/
def fnSpelledCard : Claim7 := { stood := { row := fnSpelledRow, standIns := [], harness := (true, "8af840decd32bdc1ad548c06a5463897860d5aceb15ba7733476607b4f1da760"), looks := true }, kinds := [], alts := [], laidByText := true, laidKinds := [.data, .data, .data, .data, .pinned], laidTests := true, laidLooks := .later }
def FnSpelledCardSaid : Prop := Claim7.holds Tryd.pinned (.plain (OpenSpec.ofChange fnSpelledSpec)) fnSpelledCard

/-- THE SECOND FORM's CARD OF 'laws.FnExactPitchText'. -/
def fnExactPitchTextUptoCard : Claim7 := { stood := { row := fnExactPitchTextUptoRow, standIns := [], harness := (true, "8af840decd32bdc1ad548c06a5463897860d5aceb15ba7733476607b4f1da760"), looks := true }, kinds := [], alts := [], laidByText := true, laidKinds := [.data, .data, .data], laidTests := true, laidLooks := .later }
def FnExactPitchTextUptoCardSaid : Prop := Claim7.holds Tryd.pinned (.plain (OpenSpec.upto fnExactPitchTextSpec)) fnExactPitchTextUptoCard

/-- THE SECOND FORM's CARD OF 'laws.FnExactIntervalName'. -/
def fnExactIntervalNameUptoCard : Claim7 := { stood := { row := fnExactIntervalNameUptoRow, standIns := [], harness := (true, "8af840decd32bdc1ad548c06a5463897860d5aceb15ba7733476607b4f1da760"), looks := true }, kinds := [], alts := [], laidByText := true, laidKinds := [.data, .data, .data], laidTests := true, laidLooks := .later }
def FnExactIntervalNameUptoCardSaid : Prop := Claim7.holds Tryd.pinned (.plain (OpenSpec.upto fnExactIntervalNameSpec)) fnExactIntervalNameUptoCard

/-- THE SECOND FORM's CARD OF 'laws.FnExactTuningText'. -/
def fnExactTuningTextUptoCard : Claim7 := { stood := { row := fnExactTuningTextUptoRow, standIns := [], harness := (true, "8af840decd32bdc1ad548c06a5463897860d5aceb15ba7733476607b4f1da760"), looks := true }, kinds := [], alts := [], laidByText := true, laidKinds := [.data, .data, .data], laidTests := true, laidLooks := .later }
def FnExactTuningTextUptoCardSaid : Prop := Claim7.holds Tryd.pinned (.plain (OpenSpec.upto fnExactTuningTextSpec)) fnExactTuningTextUptoCard

/-- THE SECOND FORM's CARD OF 'laws.FnExactTempoText'. -/
def fnExactTempoTextUptoCard : Claim7 := { stood := { row := fnExactTempoTextUptoRow, standIns := [], harness := (true, "8af840decd32bdc1ad548c06a5463897860d5aceb15ba7733476607b4f1da760"), looks := true }, kinds := [], alts := [], laidByText := true, laidKinds := [.data, .data, .data], laidTests := true, laidLooks := .later }
def FnExactTempoTextUptoCardSaid : Prop := Claim7.holds Tryd.pinned (.plain (OpenSpec.upto fnExactTempoTextSpec)) fnExactTempoTextUptoCard

/-- THE SECOND FORM's CARD OF 'laws.FnExactReadInterval'. -/
def fnExactReadIntervalUptoCard : Claim7 := { stood := { row := fnExactReadIntervalUptoRow, standIns := [], harness := (true, "8af840decd32bdc1ad548c06a5463897860d5aceb15ba7733476607b4f1da760"), looks := true }, kinds := [], alts := [], laidByText := true, laidKinds := [.data, .data, .data], laidTests := true, laidLooks := .later }
def FnExactReadIntervalUptoCardSaid : Prop := Claim7.holds Tryd.pinned (.plain (OpenSpec.upto fnExactReadIntervalSpec)) fnExactReadIntervalUptoCard

/-- THE SECOND FORM's CARD OF 'laws.FnExactChordPitches'. -/
def fnExactChordPitchesUptoCard : Claim7 := { stood := { row := fnExactChordPitchesUptoRow, standIns := [], harness := (true, "8af840decd32bdc1ad548c06a5463897860d5aceb15ba7733476607b4f1da760"), looks := true }, kinds := [], alts := [], laidByText := true, laidKinds := [.data, .data, .data, .data, .pinned], laidTests := true, laidLooks := .later }
def FnExactChordPitchesUptoCardSaid : Prop := Claim7.holds Tryd.pinned (.plain (OpenSpec.upto fnExactChordPitchesSpec)) fnExactChordPitchesUptoCard

/-- THE SECOND FORM's CARD OF 'laws.FnExactReadPitch'. -/
def fnExactReadPitchUptoCard : Claim7 := { stood := { row := fnExactReadPitchUptoRow, standIns := [], harness := (true, "8af840decd32bdc1ad548c06a5463897860d5aceb15ba7733476607b4f1da760"), looks := true }, kinds := [], alts := [], laidByText := true, laidKinds := [.data, .data, .data, .data, .sentinel, .sentinel, .pinned], laidTests := true, laidLooks := .later }
def FnExactReadPitchUptoCardSaid : Prop := Claim7.holds Tryd.pinned (.plain (OpenSpec.upto fnExactReadPitchSpec)) fnExactReadPitchUptoCard

/-- THE SECOND FORM's CARD OF 'laws.FnExactReadTuning'. -/
def fnExactReadTuningUptoCard : Claim7 := { stood := { row := fnExactReadTuningUptoRow, standIns := [], harness := (true, "8af840decd32bdc1ad548c06a5463897860d5aceb15ba7733476607b4f1da760"), looks := true }, kinds := [], alts := [], laidByText := true, laidKinds := [.data, .data, .data, .data, .sentinel, .sentinel, .pinned], laidTests := true, laidLooks := .later }
def FnExactReadTuningUptoCardSaid : Prop := Claim7.holds Tryd.pinned (.plain (OpenSpec.upto fnExactReadTuningSpec)) fnExactReadTuningUptoCard

/-- THE SECOND FORM's CARD OF 'laws.FnSpelled'. -/
def fnSpelledUptoCard : Claim7 := { stood := { row := fnSpelledUptoRow, standIns := [], harness := (true, "8af840decd32bdc1ad548c06a5463897860d5aceb15ba7733476607b4f1da760"), looks := true }, kinds := [], alts := [], laidByText := true, laidKinds := [.data, .data, .data, .data, .pinned], laidTests := true, laidLooks := .later }
def FnSpelledUptoCardSaid : Prop := Claim7.holds Tryd.pinned (.plain (OpenSpec.upto fnSpelledSpec)) fnSpelledUptoCard
end Rows
end Go.Proofs.YtkeckmdmmbeaiaaDoor
