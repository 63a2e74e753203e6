/- Contracts: scores taken over, compared, counted. Conditions: as each says. -/
import Derived.Test.YtapfocpnpmagfaaFa
set_option linter.unusedSimpArgs false
set_option linter.unusedVariables false
namespace Go.Proofs.Ytapfocpnpmagfaa
open Go.RowKit Sx
set_option maxRecDepth 100000

def C_Fb : FuncId → Option Ct := C_Fa
theorem C_Fb_ok : COk Try.prog C_Fb := C_Fa_ok
end Go.Proofs.Ytapfocpnpmagfaa
