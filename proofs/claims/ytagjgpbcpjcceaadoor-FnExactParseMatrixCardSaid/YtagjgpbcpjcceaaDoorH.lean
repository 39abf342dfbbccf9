/- Two fractions: neighbours, order. -/
import Derived.Test.YtagjgpbcpjcceaaDoorF
import Derived.Test.YtagjgpbcpjcceaaDoorD
namespace Go.Proofs.YtagjgpbcpjcceaaDoor
open Go.RowKit
set_option linter.unusedVariables false
set_option linter.unusedSimpArgs false
attribute [local go_sem] run_min_int4 run_max_int4
attribute [local go_sem] run_equalIn_M
attribute [local go_sem] run_equalIn_Q
theorem isF_bd {p q : Int} (h : isF p q = true) : (-1000000000 ≤ p ∧ p ≤ 1000000000) ∧ 0 ≤ q ∧ q ≤ 1000000000 ∧ ent p = true ∧ ent q = true := by
  obtain ⟨h1, h2, h3, h4⟩ := isF_iff.mp h
  exact ⟨h1, h2.1, h2.2, ent_iff.mpr h1, ent_iff.mpr (by omega)⟩
/-- neighbours -/
def near (p q p' q' : Int) : Bool := decide (p * q' - q * p' = 1) || decide (p * q' - q * p' = -1)
/-- how two fractions compare -/
def sgn (n : Int) : Int := if n < 0 then -1 else if 0 < n then 1 else 0
def cmpF (p q p' q' : Int) : Int := sgn (p * q' - p' * q)
/-- is a fraction less than another one? -/
def lessF (p q p' q' : Int) : Bool := if q = 0 ∨ q' = 0 then decide (0 < q ∧ q' = 0) else decide (p * q' < p' * q)
/-- what MatrixOfNeighbours makes -/
def nbM (p q p' q' : Int) : Int := p * q' - q * p'
end Go.Proofs.YtagjgpbcpjcceaaDoor
