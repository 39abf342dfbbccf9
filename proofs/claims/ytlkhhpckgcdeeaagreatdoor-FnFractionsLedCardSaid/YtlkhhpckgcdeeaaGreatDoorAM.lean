/- Words and rows of matrices: isWord, letter, ofWord. -/
import Derived.Test.YtlkhhpckgcdeeaaGreatDoorAD
import Derived.Test.YtlkhhpckgcdeeaaGreatDoorP
import Derived.Test.YtlkhhpckgcdeeaaGreatDoorN
import Derived.Test.YtlkhhpckgcdeeaaGreatDoorSH
import Derived.Lib.IndexLaws
namespace Go.Proofs.YtlkhhpckgcdeeaaGreatDoor
open Go.RowKit
set_option linter.unusedVariables false
set_option linter.unusedSimpArgs false
/-- all letters of a word are among some letters -/
def okW (ls l : List UInt8) : Bool := l.all (fun c => decide (0 ≤ Lib.indexByte ls c))
theorem okW_step {ls l : List UInt8} {k : Nat} (hk : k < l.length) : okW ls (l.drop k) = (decide (0 ≤ Lib.indexByte ls l[k]) && okW ls (l.drop (k + 1))) := by
  rw [List.drop_eq_getElem_cons hk]; rfl
/-- the matrix of a letter -/
def letM (b : UInt8) : M4 :=
  if b = 83 then ⟨0, -1, 1, 0⟩ else if b = 84 then ⟨1, 1, 0, 1⟩ else if b = 116 then ⟨1, -1, 0, 1⟩ else if b = 76 then ⟨1, 0, 1, 1⟩ else if b = 108 then ⟨1, 0, -1, 1⟩ else if b = 85 then ⟨1, -1, 1, 0⟩ else ⟨0, -1, 1, -1⟩
def isL (b : UInt8) : Prop := b = 83 ∨ b = 84 ∨ b = 116 ∨ b = 76 ∨ b = 108 ∨ b = 85 ∨ b = 86
end Go.Proofs.YtlkhhpckgcdeeaaGreatDoor
