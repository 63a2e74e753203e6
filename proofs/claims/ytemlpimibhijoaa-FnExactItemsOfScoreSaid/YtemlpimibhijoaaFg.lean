/- Contracts: tunings taken over, compared, counted, valid; the program and the reference. Conditions: as each says. -/
import Derived.Test.YtemlpimibhijoaaFf
set_option linter.unusedSimpArgs false
set_option linter.unusedVariables false
namespace Go.Proofs.Ytemlpimibhijoaa
open Go.RowKit Sx
set_option maxRecDepth 100000
set_option maxHeartbeats 1000000
abbrev tTuning : Ty := .pair tFrac (.pair tFrac (.seq tFrac))

def C_Fg : FuncId → Option Ct := C_Ff
theorem C_Fg_ok : COk Try.prog C_Fg := C_Ff_ok
end Go.Proofs.Ytemlpimibhijoaa
