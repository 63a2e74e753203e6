/- Contracts: notes sorted by the reference, over the drawn ones. Conditions: as each says. -/
import Derived.Test.YtjgjcggecikdpaaSc
import Derived.Test.YtjgjcggecikdpaaQN
set_option linter.unusedSimpArgs false
set_option linter.unusedVariables false
namespace Go.Proofs.Ytjgjcggecikdpaa
open Go.RowKit Sx
set_option maxRecDepth 100000
set_option maxHeartbeats 1000000
def C_LsB : FuncId → Option Ct := addC 137 ct_l18Sort C_Dn
theorem C_LsB_ok : COk Try.prog C_LsB := addC_ok C_Dn_ok sat_l18Sort

def C_Ls : FuncId → Option Ct := C_LsB
theorem C_Ls_ok : COk Try.prog C_Ls := C_LsB_ok
end Go.Proofs.Ytjgjcggecikdpaa
