/- Contracts of the small functions on a matrix: trace, kind, inverse, names. -/
import Derived.Test.YtandannjdhnlmaaE
import Derived.Deep.RegionHeld3
namespace Go.Proofs.Ytandannjdhnlmaa
open Go.RowKit
set_option linter.unusedVariables false
set_option linter.unusedSimpArgs false
attribute [local go_sem] run_min_int4 run_max_int4
attribute [local go_sem] run_equalIn_Q

theorem held_cell {W w1 : World} {a : Addr} {v : Value} (hb : Below W.heap.size W w1) (h : W.cell? a = some v) : w1.cell? a = some v := by
  rw [hb.cell (World.block_lt_of_cell? W a h)]; exact h

theorem ret_int {k : IntKind} {a b : Int} (h : a = b) : Ending.returned (.int k a) = .returned (.int k b) := by rw [h]

theorem held_size {W w1 : World} {n : Nat} (hb : Below W.heap.size W w1) (h : n < W.heap.size) : n < w1.heap.size := Nat.lt_of_lt_of_le h hb.size

/-- the kind of a matrix -/
def kindOf (p q r s : Int) : Int := if q = 0 ∧ r = 0 then 0 else if max (p + s) (-(p + s)) < 2 then 1 else if max (p + s) (-(p + s)) = 2 then 2 else 3
def absT (t : Int) : Int := max t (-t)

/-- a positive matrix -/
def posM (p q r s : Int) : Bool := decide (0 ≤ p ∧ 0 ≤ q ∧ 0 ≤ r ∧ 0 ≤ s)
theorem ret_bool {a b : Bool} (h : a = b) : Ending.returned (.bool a) = .returned (.bool b) := by rw [h]
end Go.Proofs.Ytandannjdhnlmaa
