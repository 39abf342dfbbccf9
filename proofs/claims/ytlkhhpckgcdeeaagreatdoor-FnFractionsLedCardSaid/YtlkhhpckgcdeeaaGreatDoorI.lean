/- Rows of numbers: equal, marked, held. -/
import Derived.Test.YtlkhhpckgcdeeaaGreatDoorW
namespace Go.Proofs.YtlkhhpckgcdeeaaGreatDoor
open Go.RowKit
set_option linter.unusedVariables false
set_option linter.unusedSimpArgs false
/-- the cells of a row of numbers -/
def RowI (w : World) (b off : Nat) (zs : List Int) : Prop := ∀ k, k < zs.length → w.cell? ⟨b, off + k, none⟩ = some (.int .i64 (zs.getD k 0))
end Go.Proofs.YtlkhhpckgcdeeaaGreatDoor
