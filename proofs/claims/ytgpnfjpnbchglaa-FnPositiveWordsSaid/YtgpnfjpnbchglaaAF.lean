/- Laws on rows of numbers: the walks, printed by rowlaw.py. -/
import Derived.Test.YtgpnfjpnbchglaaAD
namespace Go.Proofs.Ytgpnfjpnbchglaa
open Go.RowKit
set_option linter.unusedVariables false
set_option linter.unusedSimpArgs false
end Go.Proofs.Ytgpnfjpnbchglaa
