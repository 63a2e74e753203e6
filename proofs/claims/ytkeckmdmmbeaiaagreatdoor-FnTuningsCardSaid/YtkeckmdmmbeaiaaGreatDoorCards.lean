/-
  DERIVED. GIVEN WITH THE SEED: THE CARDS: each row of YtkeckmdmmbeaiaaGreatDoorRows.lean that lists a variable, with what it lists TIED to the program's text (the seventh form; the later family's looks); each row that meets fmt, with fmt's text TOLD by the authors' own Lean function (tested against real Go, not proved from fmt's source: count such statements apart). THE CARD IS WHAT COUNTS. Prove the row's statement (the work); the ties are given (YtkeckmdmmbeaiaaGreatDoorTie.lean); close each card by the builder's one call (the guide's Derived/Test/ToyasCard.lean, 'card_holds'). Laid BY PROGRAM, IN A SANDBOX (cutbox-door.mjs). By AI agents, Wed Nov 11 2026. No macro, syntax, notation, axiom, sorry.
-/
import Derived.Test.YtkeckmdmmbeaiaaGreatDoorRows
import GoSem.ClaimSeven
namespace Go.Proofs.YtkeckmdmmbeaiaaGreatDoor
namespace Rows

/-- THE TIED CARD OF 'laws.FnExactReadTempos'. -/
def fnExactReadTemposCard : Claim7 := { stood := { row := fnExactReadTemposRow, standIns := [], harness := (true, "ee694c6f5b19fb0f24e565a2946d8312004e9f0b8341d0d7fb5889161786d4f4"), looks := true }, kinds := [], alts := [], laidByText := true, laidKinds := [.data, .data, .data, .data, .sentinel, .sentinel, .pinned], laidTests := true, laidLooks := .later }
def FnExactReadTemposCardSaid : Prop := Claim7.holds Tryz.pinned (.plain (OpenSpec.ofChange fnExactReadTemposSpec)) fnExactReadTemposCard

/-- THE TIED CARD OF 'laws.FnTempo'. -/
def fnTempoCard : Claim7 := { stood := { row := fnTempoRow, standIns := [], harness := (true, "ee694c6f5b19fb0f24e565a2946d8312004e9f0b8341d0d7fb5889161786d4f4"), looks := true }, kinds := [], alts := [], laidByText := true, laidKinds := [.data, .data, .data, .data, .sentinel, .sentinel, .pinned], laidTests := true, laidLooks := .later }
def FnTempoCardSaid : Prop := Claim7.holds Tryz.pinned (.plain (OpenSpec.ofChange fnTempoSpec)) fnTempoCard

/-- THE TIED CARD OF 'laws.FnTunings'. -/
def fnTuningsCard : Claim7 := { stood := { row := fnTuningsRow, standIns := [], harness := (true, "ee694c6f5b19fb0f24e565a2946d8312004e9f0b8341d0d7fb5889161786d4f4"), looks := true }, kinds := [], alts := [], laidByText := true, laidKinds := [.data, .data, .data, .data, .sentinel, .sentinel, .pinned], laidTests := true, laidLooks := .later }
def FnTuningsCardSaid : Prop := Claim7.holds Tryz.pinned (.plain (OpenSpec.ofChange fnTuningsSpec)) fnTuningsCard

/-- THE TIED CARD OF 'laws.FnPitches'. -/
def fnPitchesCard : Claim7 := { stood := { row := fnPitchesRow, standIns := [], harness := (true, "ee694c6f5b19fb0f24e565a2946d8312004e9f0b8341d0d7fb5889161786d4f4"), looks := true }, kinds := [], alts := [], laidByText := true, laidKinds := [.data, .data, .data, .data, .sentinel, .sentinel, .pinned], laidTests := true, laidLooks := .later }
def FnPitchesCardSaid : Prop := Claim7.holds Tryz.pinned (.plain (OpenSpec.ofChange fnPitchesSpec)) fnPitchesCard

/-- THE SECOND FORM's CARD OF 'laws.FnExactReadTempos'. -/
def fnExactReadTemposUptoCard : Claim7 := { stood := { row := fnExactReadTemposUptoRow, standIns := [], harness := (true, "ee694c6f5b19fb0f24e565a2946d8312004e9f0b8341d0d7fb5889161786d4f4"), looks := true }, kinds := [], alts := [], laidByText := true, laidKinds := [.data, .data, .data, .data, .sentinel, .sentinel, .pinned], laidTests := true, laidLooks := .later }
def FnExactReadTemposUptoCardSaid : Prop := Claim7.holds Tryz.pinned (.plain (OpenSpec.upto fnExactReadTemposSpec)) fnExactReadTemposUptoCard

/-- THE SECOND FORM's CARD OF 'laws.FnTempo'. -/
def fnTempoUptoCard : Claim7 := { stood := { row := fnTempoUptoRow, standIns := [], harness := (true, "ee694c6f5b19fb0f24e565a2946d8312004e9f0b8341d0d7fb5889161786d4f4"), looks := true }, kinds := [], alts := [], laidByText := true, laidKinds := [.data, .data, .data, .data, .sentinel, .sentinel, .pinned], laidTests := true, laidLooks := .later }
def FnTempoUptoCardSaid : Prop := Claim7.holds Tryz.pinned (.plain (OpenSpec.upto fnTempoSpec)) fnTempoUptoCard

/-- THE SECOND FORM's CARD OF 'laws.FnTunings'. -/
def fnTuningsUptoCard : Claim7 := { stood := { row := fnTuningsUptoRow, standIns := [], harness := (true, "ee694c6f5b19fb0f24e565a2946d8312004e9f0b8341d0d7fb5889161786d4f4"), looks := true }, kinds := [], alts := [], laidByText := true, laidKinds := [.data, .data, .data, .data, .sentinel, .sentinel, .pinned], laidTests := true, laidLooks := .later }
def FnTuningsUptoCardSaid : Prop := Claim7.holds Tryz.pinned (.plain (OpenSpec.upto fnTuningsSpec)) fnTuningsUptoCard

/-- THE SECOND FORM's CARD OF 'laws.FnPitches'. -/
def fnPitchesUptoCard : Claim7 := { stood := { row := fnPitchesUptoRow, standIns := [], harness := (true, "ee694c6f5b19fb0f24e565a2946d8312004e9f0b8341d0d7fb5889161786d4f4"), looks := true }, kinds := [], alts := [], laidByText := true, laidKinds := [.data, .data, .data, .data, .sentinel, .sentinel, .pinned], laidTests := true, laidLooks := .later }
def FnPitchesUptoCardSaid : Prop := Claim7.holds Tryz.pinned (.plain (OpenSpec.upto fnPitchesSpec)) fnPitchesUptoCard
end Rows
end Go.Proofs.YtkeckmdmmbeaiaaGreatDoor
