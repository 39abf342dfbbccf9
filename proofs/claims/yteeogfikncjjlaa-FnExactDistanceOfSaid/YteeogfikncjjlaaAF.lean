/- Laws on rows of numbers: the walks, printed by rowlaw.py. -/
import Derived.Test.YteeogfikncjjlaaAD
namespace Go.Proofs.Yteeogfikncjjlaa
open Go.RowKit
set_option linter.unusedVariables false
set_option linter.unusedSimpArgs false
end Go.Proofs.Yteeogfikncjjlaa
