/- Laws on one matrix and on two: the walks. -/
import Derived.Test.YtlkhhpckgcdeeaaGreatDoorC
namespace Go.Proofs.YtlkhhpckgcdeeaaGreatDoor
open Go.RowKit
set_option linter.unusedVariables false
set_option linter.unusedSimpArgs false
attribute [local go_sem] run_min_int4 run_max_int4
attribute [local go_sem] run_equalIn_M
attribute [local go_sem] run_equalIn_Q



/-- equal matrices -/
def eqM (p q r s p' q' r' s' : Int) : Bool := (p == p' && (q == q' && (r == r' && s == s')))
/-- what SignBetween answers -/
def signB (p q r s p' q' r' s' : Int) : Int := if (p == p' && (q == q' && (r == r' && s == s'))) = true then 1 else if (p == -p' && (q == -q' && (r == -r' && s == -s'))) = true then -1 else 0
end Go.Proofs.YtlkhhpckgcdeeaaGreatDoor
