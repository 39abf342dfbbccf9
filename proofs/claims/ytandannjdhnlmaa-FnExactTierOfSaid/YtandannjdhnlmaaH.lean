/- Two fractions: neighbours, order. -/
import Derived.Test.YtandannjdhnlmaaF
import Derived.Test.YtandannjdhnlmaaD
namespace Go.Proofs.Ytandannjdhnlmaa
open Go.RowKit
set_option linter.unusedVariables false
set_option linter.unusedSimpArgs false
attribute [local go_sem] run_min_int4 run_max_int4
attribute [local go_sem] run_equalIn_Q
theorem isF_bd {p q : Int} (h : isF p q = true) : (-1000000000 ≤ p ∧ p ≤ 1000000000) ∧ 0 ≤ q ∧ q ≤ 1000000000 ∧ ent p = true ∧ ent q = true := by
  obtain ⟨h1, h2, h3, h4⟩ := isF_iff.mp h
  exact ⟨h1, h2.1, h2.2, ent_iff.mpr h1, ent_iff.mpr (by omega)⟩
/-- neighbours -/
def near (p q p' q' : Int) : Bool := decide (p * q' - q * p' = 1) || decide (p * q' - q * p' = -1)
/-- how two fractions compare -/
def sgn (n : Int) : Int := if n < 0 then -1 else if 0 < n then 1 else 0
def cmpF (p q p' q' : Int) : Int := sgn (p * q' - p' * q)
theorem sign_c (n : Int) (w : World) :
    Calls Try.prog 20 #[.int .i64 n] w fun e w' => e = .returned (.int .i64 (sgn n)) ∧ w = w' := by
  go_enter Try.func20, Try.ntmps20
  go_wp2
  all_goals (go_returns; exact ⟨ret_int (by unfold sgn; grind), rfl⟩)
theorem compare_c (p q p' q' : Int) (w : World) (h0 : -9000000000000000000 ≤ p * q' ∧ p * q' ≤ 9000000000000000000) (h1 : -9000000000000000000 ≤ p' * q ∧ p' * q ≤ 9000000000000000000) (h2 : -9000000000000000000 ≤ p * q' - p' * q ∧ p * q' - p' * q ≤ 9000000000000000000) :
    Calls Try.prog 15 #[.agg #[.int .i64 p, .int .i64 q], .agg #[.int .i64 p', .int .i64 q']] w fun e w' => e = .returned (.int .i64 (cmpF p q p' q')) ∧ Below w.heap.size w w' := by
  obtain ⟨a0, a1⟩ := h0
  obtain ⟨b0, b1⟩ := h1
  obtain ⟨c0, c1⟩ := h2
  go_enter Try.func15, Try.ntmps15
  go_wp2_with fail
  refine (sign_c _ _).mono ?_
  rintro e w1 ⟨rfl, rfl⟩
  go_wp2
  go_returns
  exact ⟨rfl, (by repeat' (first | (with_reducible exact Below.refl _ _) | (with_reducible assumption) | (with_reducible refine below_drewN ?_ _) | (with_reducible refine Below.drew ?_) | (with_reducible refine Below.alloc ?_ ?_ _) | (with_reducible refine Below.setCell ?_ ?_ _) | (with_reducible refine Below.trans ?_ (Below.mono (by with_reducible assumption) ?_)) | go_size | (dsimp only; omega)))⟩
/-- is a fraction less than another one? -/
def lessF (p q p' q' : Int) : Bool := if q = 0 ∨ q' = 0 then decide (0 < q ∧ q' = 0) else decide (p * q' < p' * q)
/-- what MatrixOfNeighbours makes -/
def nbM (p q p' q' : Int) : Int := p * q' - q * p'
end Go.Proofs.Ytandannjdhnlmaa
