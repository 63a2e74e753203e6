/- What every law of this seat asks of the program alone, proved once. No condition. -/
import Derived.Test.YtemlpimibhijoaaLawC
set_option linter.unusedSimpArgs false
set_option linter.unusedVariables false
namespace Go.Proofs.Ytemlpimibhijoaa
open Go.ChangeShapes Go.WideShapes Go.ChangeAt Go.RowKit Go.Deep Sx
set_option maxHeartbeats 8000000 in
set_option maxRecDepth 100000 in
theorem PJ_laid : laidOutB Try.prog = true := by kernel_rfl
set_option maxHeartbeats 8000000 in
set_option maxRecDepth 100000 in
theorem PJ_maps : mapsRowed Try.prog = true := by kernel_rfl
set_option maxHeartbeats 8000000 in
set_option maxRecDepth 100000 in
theorem PJ_stops : (Try.prog.stops == []) = true := by kernel_rfl
set_option maxHeartbeats 8000000 in
set_option maxRecDepth 100000 in
theorem PJ_knobs : (Try.prog.stopKnobs == []) = true := by kernel_rfl
set_option maxHeartbeats 8000000 in
set_option maxRecDepth 100000 in
theorem PJ_keys : (Rows.fnExactPlayItemsRow.plainKeys == Try.prog.plainKeys) = true := by kernel_rfl
set_option maxHeartbeats 8000000 in
set_option maxRecDepth 100000 in
theorem PJ_heard : Try.prog.stopsHeard = true := by kernel_rfl
set_option maxHeartbeats 8000000 in
set_option maxRecDepth 100000 in
theorem PJ_enter : Try.prog.mayEnter = true := by kernel_rfl
set_option maxHeartbeats 8000000 in
set_option maxRecDepth 100000 in
theorem PJ_lifts : (Rows.fnExactPlayItemsRow.lifted == Try.prog.liftsFinal) = true := by kernel_rfl
set_option maxHeartbeats 8000000 in
set_option maxRecDepth 100000 in
theorem PJ_make : (Try.prog.make == some Rows.fnExactPlayItemsRow.make) = true := by kernel_rfl

end Go.Proofs.Ytemlpimibhijoaa
