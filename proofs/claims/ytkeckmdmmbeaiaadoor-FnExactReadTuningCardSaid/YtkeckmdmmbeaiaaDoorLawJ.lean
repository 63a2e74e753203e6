/- What every law of this seat asks of the program alone, proved once. No condition. -/
import Derived.Test.YtkeckmdmmbeaiaaDoorLawC
set_option linter.unusedSimpArgs false
set_option linter.unusedVariables false
namespace Go.Proofs.YtkeckmdmmbeaiaaDoor
open Go.ChangeShapes Go.WideShapes Go.ChangeAt Go.RowKit Go.Deep Sx
set_option maxHeartbeats 8000000 in
set_option maxRecDepth 100000 in
theorem PJ_laid : laidOutB Tryd.prog = true := by kernel_rfl
set_option maxHeartbeats 8000000 in
set_option maxRecDepth 100000 in
theorem PJ_maps : mapsRowed Tryd.prog = true := by kernel_rfl
set_option maxHeartbeats 8000000 in
set_option maxRecDepth 100000 in
theorem PJ_stops : (Tryd.prog.stops == []) = true := by kernel_rfl
set_option maxHeartbeats 8000000 in
set_option maxRecDepth 100000 in
theorem PJ_knobs : (Tryd.prog.stopKnobs == []) = true := by kernel_rfl
set_option maxHeartbeats 8000000 in
set_option maxRecDepth 100000 in
theorem PJ_keys : (Rows.fnExactPitchTextRow.plainKeys == Tryd.prog.plainKeys) = true := by kernel_rfl
set_option maxHeartbeats 8000000 in
set_option maxRecDepth 100000 in
theorem PJ_heard : Tryd.prog.stopsHeard = true := by kernel_rfl
set_option maxHeartbeats 8000000 in
set_option maxRecDepth 100000 in
theorem PJ_enter : Tryd.prog.mayEnter = true := by kernel_rfl
set_option maxHeartbeats 8000000 in
set_option maxRecDepth 100000 in
theorem PJ_lifts : (Rows.fnExactPitchTextRow.lifted == Tryd.prog.liftsFinal) = true := by kernel_rfl
set_option maxHeartbeats 8000000 in
set_option maxRecDepth 100000 in
theorem PJ_make : (Tryd.prog.make == some Rows.fnExactPitchTextRow.make) = true := by kernel_rfl

end Go.Proofs.YtkeckmdmmbeaiaaDoor
