/- PowerOf: the walks. -/
import Derived.Test.YtgpnfjpnbchglaaPB
import Derived.Test.YtgpnfjpnbchglaaAQ
import Derived.Deep.DeepCutAuto
namespace Go.Proofs.Ytgpnfjpnbchglaa
open Go.RowKit
open Plain (P4 U V)
set_option linter.unusedVariables false
set_option linter.unusedSimpArgs false
def P4.v4 (m : P4) : Value := .agg #[.int .i64 m.a, .int .i64 m.b, .int .i64 m.c, .int .i64 m.d]
theorem fit_ent {m : P4} : (ent m.a && ent m.b && ent m.c && ent m.d) = true ↔ m.fit := by
  simp only [Bool.and_eq_true, ent_iff, P4.fit]
  omega
open Classical in
/-- what a power answers -/
noncomputable def powV (m : P4) (n : Nat) : Value := if (m.pow n).fit then .tuple #[P4.v4 (m.pow n), .int .i64 0] else .tuple #[.agg #[.int .i64 0, .int .i64 0, .int .i64 0, .int .i64 0], .int .i64 3]
theorem powV_yes {m : P4} {n : Nat} (h : (m.pow n).fit) : powV m n = .tuple #[P4.v4 (m.pow n), .int .i64 0] := if_pos h
theorem powV_no {m : P4} {n : Nat} (h : ¬ (m.pow n).fit) : powV m n = .tuple #[.agg #[.int .i64 0, .int .i64 0, .int .i64 0, .int .i64 0], .int .i64 3] := if_neg h
end Go.Proofs.Ytgpnfjpnbchglaa
