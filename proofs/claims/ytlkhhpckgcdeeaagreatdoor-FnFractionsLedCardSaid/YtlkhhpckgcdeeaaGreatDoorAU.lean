/- Slices of numbers that came in; toInt64S. -/
import Derived.Test.YtlkhhpckgcdeeaaGreatDoorAD
import Derived.Laws.NewBlocks
import Derived.Laws.OwnMore
namespace Go.Proofs.YtlkhhpckgcdeeaaGreatDoor
open Go.RowKit
set_option linter.unusedVariables false
set_option linter.unusedSimpArgs false
/-- a slice of numbers that may be read -/
def InI (w : World) (v : Value) (ys : List Int) : Prop :=
  (ys = [] ∧ ∃ a c, v = .slice a 0 c) ∨ (∃ b o c, v = .slice (some ⟨b, o, none⟩) ys.length c ∧ b < w.heap.size ∧ RowI w b o ys)
theorem OwnI.inI {B : Nat} {w : World} {v : Value} {ys : List Int} (h : OwnI B w v ys) : InI w v ys := by
  rcases h with ⟨h1, p, c, h2⟩ | ⟨g, c, h1, h2, h3, h4, h5⟩
  · exact .inl ⟨h1, p, c, h2⟩
  · exact .inr ⟨g, 0, c, h1, h3, h4⟩
theorem InI.below {C : Nat} {w w' : World} {v : Value} {ys : List Int} (h : InI w v ys) (hb : Below C w w') (hc : w.heap.size ≤ C) : InI w' v ys := by
  rcases h with h | ⟨b, o, c, h1, h2, h3⟩
  · exact .inl h
  · exact .inr ⟨b, o, c, h1, Nat.lt_of_lt_of_le h2 hb.size, fun k hk => by rw [hb.cell (p := ⟨b, o + k, none⟩) (by dsimp only; omega)]; exact h3 k hk⟩
end Go.Proofs.YtlkhhpckgcdeeaaGreatDoor
