/- The exported functions on one matrix or two, of the program and of the reference. -/
import Derived.Test.YteeogfikncjjlaaB
namespace Go.Proofs.Yteeogfikncjjlaa
open Go.RowKit
set_option linter.unusedVariables false
set_option linter.unusedSimpArgs false
attribute [local go_sem] run_min_int4 run_max_int4
attribute [local go_sem] run_equalIn_M
attribute [local go_sem] run_equalIn_Q
theorem ret_bi {a b : Bool} {c d : Int} (h : a = b) (h' : c = d) : Ending.returned (.tuple #[.bool a, .int .i64 c]) = .returned (.tuple #[.bool b, .int .i64 d]) := by rw [h, h']
theorem ret_ii {a b c d : Int} (h : a = b) (h' : c = d) : Ending.returned (.tuple #[.int .i64 a, .int .i64 c]) = .returned (.tuple #[.int .i64 b, .int .i64 d]) := by rw [h, h']
/-- what a function of a matrix answers: its code is 1 where it is none -/
def posOf (p q r s : Int) : Bool × Int := if isM p q r s = true then (posM p q r s, 0) else (false, 1)









end Go.Proofs.Yteeogfikncjjlaa
