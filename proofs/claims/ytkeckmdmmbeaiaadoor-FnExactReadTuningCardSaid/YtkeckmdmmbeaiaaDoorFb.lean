/- Contracts: scores taken over, compared, counted. Conditions: as each says. -/
import Derived.Test.YtkeckmdmmbeaiaaDoorFa
set_option linter.unusedSimpArgs false
set_option linter.unusedVariables false
namespace Go.Proofs.YtkeckmdmmbeaiaaDoor
open Go.RowKit Sx
set_option maxRecDepth 100000
set_option maxHeartbeats 1000000

def C_Fb : FuncId → Option Ct := C_Fa
theorem C_Fb_ok : COk Tryd.prog C_Fb := C_Fa_ok
end Go.Proofs.YtkeckmdmmbeaiaaDoor
