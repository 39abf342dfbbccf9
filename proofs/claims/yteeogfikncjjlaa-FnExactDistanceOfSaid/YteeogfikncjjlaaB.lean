/- Contracts of the small functions on a matrix: trace, kind, inverse, names. -/
import Derived.Test.YteeogfikncjjlaaE
import Derived.Deep.RegionHeld3
namespace Go.Proofs.Yteeogfikncjjlaa
open Go.RowKit
set_option linter.unusedVariables false
set_option linter.unusedSimpArgs false
attribute [local go_sem] run_min_int4 run_max_int4
attribute [local go_sem] run_equalIn_M
attribute [local go_sem] run_equalIn_Q

theorem held_cell {W w1 : World} {a : Addr} {v : Value} (hb : Below W.heap.size W w1) (h : W.cell? a = some v) : w1.cell? a = some v := by
  rw [hb.cell (World.block_lt_of_cell? W a h)]; exact h

theorem ret_int {k : IntKind} {a b : Int} (h : a = b) : Ending.returned (.int k a) = .returned (.int k b) := by rw [h]

theorem held_size {W w1 : World} {n : Nat} (hb : Below W.heap.size W w1) (h : n < W.heap.size) : n < w1.heap.size := Nat.lt_of_lt_of_le h hb.size

theorem size_c (n : Int) (w : World) (h0 : -4611686018427387904 ≤ n) (h1 : n ≤ 4611686018427387904) :
    Calls Try.prog 13 #[.int .i64 n] w fun e w' => e = .returned (.int .i64 (max n (-n))) ∧ w = w' := by
  go_enter Try.func13, Try.ntmps13
  go_wp2
  all_goals (go_ret; exact ⟨ret_int (by omega), rfl⟩)
/-- the kind of a matrix -/
def kindOf (p q r s : Int) : Int := if q = 0 ∧ r = 0 then 0 else if max (p + s) (-(p + s)) < 2 then 1 else if max (p + s) (-(p + s)) = 2 then 2 else 3
def absT (t : Int) : Int := max t (-t)

theorem l01Inverse_c (p q r s : Int) (w : World) (hp0 : -1000000000 ≤ p) (hp1 : p ≤ 1000000000) (hq0 : -1000000000 ≤ q) (hq1 : q ≤ 1000000000) (hr0 : -1000000000 ≤ r) (hr1 : r ≤ 1000000000) (hs0 : -1000000000 ≤ s) (hs1 : s ≤ 1000000000) :
    Calls Try.prog 18 #[.agg #[.int .i64 p, .int .i64 q, .int .i64 r, .int .i64 s]] w fun e w' => e = .returned (.agg #[.int .i64 s, .int .i64 (-q), .int .i64 (-r), .int .i64 p]) ∧ Below w.heap.size w w' := by
  go_enter Try.func18, Try.ntmps18
  go_wp2
  go_returns
  exact ⟨rfl, (by repeat' (first | (with_reducible exact Below.refl _ _) | (with_reducible assumption) | (with_reducible refine below_drewN ?_ _) | (with_reducible refine Below.drew ?_) | (with_reducible refine Below.alloc ?_ ?_ _) | (with_reducible refine Below.setCell ?_ ?_ _) | (with_reducible refine Below.trans ?_ (Below.mono (by with_reducible assumption) ?_)) | go_size | (dsimp only; omega)))⟩
/-- a positive matrix -/
def posM (p q r s : Int) : Bool := decide (0 ≤ p ∧ 0 ≤ q ∧ 0 ≤ r ∧ 0 ≤ s)
theorem ret_bool {a b : Bool} (h : a = b) : Ending.returned (.bool a) = .returned (.bool b) := by rw [h]
end Go.Proofs.Yteeogfikncjjlaa
