/- What every law of this seat asks of the program alone, proved once. No condition. -/
import Derived.Test.YtkeckmdmmbeaiaaGreatDoorLawC
set_option linter.unusedSimpArgs false
set_option linter.unusedVariables false
namespace Go.Proofs.YtkeckmdmmbeaiaaGreatDoor
open Go.ChangeShapes Go.WideShapes Go.ChangeAt Go.RowKit Go.Deep Sx
set_option maxHeartbeats 8000000 in
set_option maxRecDepth 100000 in
theorem PJ_laid : laidOutB Tryz.prog = true := by kernel_rfl
set_option maxHeartbeats 8000000 in
set_option maxRecDepth 100000 in
theorem PJ_maps : mapsRowed Tryz.prog = true := by kernel_rfl
set_option maxHeartbeats 8000000 in
set_option maxRecDepth 100000 in
theorem PJ_stops : (Tryz.prog.stops == []) = true := by kernel_rfl
set_option maxHeartbeats 8000000 in
set_option maxRecDepth 100000 in
theorem PJ_knobs : (Tryz.prog.stopKnobs == []) = true := by kernel_rfl
set_option maxHeartbeats 8000000 in
set_option maxRecDepth 100000 in
theorem PJ_keys : (Rows.fnExactReadTemposRow.plainKeys == Tryz.prog.plainKeys) = true := by kernel_rfl
set_option maxHeartbeats 8000000 in
set_option maxRecDepth 100000 in
theorem PJ_heard : Tryz.prog.stopsHeard = true := by kernel_rfl
set_option maxHeartbeats 8000000 in
set_option maxRecDepth 100000 in
theorem PJ_enter : Tryz.prog.mayEnter = true := by kernel_rfl
set_option maxHeartbeats 8000000 in
set_option maxRecDepth 100000 in
theorem PJ_lifts : (Rows.fnExactReadTemposRow.lifted == Tryz.prog.liftsFinal) = true := by kernel_rfl
set_option maxHeartbeats 8000000 in
set_option maxRecDepth 100000 in
theorem PJ_make : (Tryz.prog.make == some Rows.fnExactReadTemposRow.make) = true := by kernel_rfl

end Go.Proofs.YtkeckmdmmbeaiaaGreatDoor
