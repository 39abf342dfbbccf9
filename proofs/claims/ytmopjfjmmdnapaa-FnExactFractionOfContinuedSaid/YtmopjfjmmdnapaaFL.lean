/- Laws on rows of fractions and of matrices: the walks, printed by rowlaw.py. -/
import Derived.Test.YtmopjfjmmdnapaaFR
namespace Go.Proofs.Ytmopjfjmmdnapaa
open Go.RowKit
set_option linter.unusedVariables false
set_option linter.unusedSimpArgs false
end Go.Proofs.Ytmopjfjmmdnapaa
