/- The law of MatrixOfWord. -/
import Derived.Test.YtgpnfjpnbchglaaAQ
namespace Go.Proofs.Ytgpnfjpnbchglaa
open Go.RowKit
set_option linter.unusedVariables false
set_option linter.unusedSimpArgs false
end Go.Proofs.Ytgpnfjpnbchglaa
