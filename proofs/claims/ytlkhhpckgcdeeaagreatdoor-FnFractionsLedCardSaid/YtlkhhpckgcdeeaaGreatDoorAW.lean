/- MatrixOfRuns of the reference; the law. -/
import Derived.Test.YtlkhhpckgcdeeaaGreatDoorAV
namespace Go.Proofs.YtlkhhpckgcdeeaaGreatDoor
open Go.RowKit
set_option linter.unusedVariables false
set_option linter.unusedSimpArgs false
theorem runsV_nil : runsV [] = .tuple #[.agg #[.int .i64 1, .int .i64 0, .int .i64 0, .int .i64 1], .int .i64 0] := by
  rw [runsV_yes ⟨by simp, fun i hi => by simp at hi⟩]; rfl
end Go.Proofs.YtlkhhpckgcdeeaaGreatDoor
