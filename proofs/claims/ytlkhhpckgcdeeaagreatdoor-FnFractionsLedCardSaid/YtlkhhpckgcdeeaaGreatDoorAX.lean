/- Laws on a list of numbers. -/
import Derived.Test.YtlkhhpckgcdeeaaGreatDoorK
import Derived.Test.YtlkhhpckgcdeeaaGreatDoorAW
namespace Go.Proofs.YtlkhhpckgcdeeaaGreatDoor
open Go.RowKit
set_option linter.unusedVariables false
set_option linter.unusedSimpArgs false
theorem inI_isRow {W : World} {a : Option Addr} {len cap : Nat} {zs : List Int} (h : IsRow .i64 W a len cap zs) : InI W (.slice a len cap) (zs.take len) ∧ (zs.take len).length = len := by
  rcases h with ⟨rfl, rfl, rfl, rfl⟩ | ⟨x, rfl, h1, h2, h3, h4, h5⟩
  · exact ⟨.inl ⟨rfl, _, _, rfl⟩, rfl⟩
  · have hl : (zs.take len).length = len := by rw [List.length_take]; omega
    refine ⟨?_, hl⟩
    by_cases h0 : len = 0
    · subst h0; exact .inl ⟨by simp, _, _, rfl⟩
    · obtain ⟨b, o, spot⟩ := x
      have c0 := h4 0 (by omega)
      have hs : spot = none := by simpa [Addr.add] using World.cell?_spot c0
      subst hs
      have ad : ∀ j, (⟨b, o, none⟩ : Addr).add j = ⟨b, o + j, none⟩ := by
        intro j; by_cases hj : j = 0
        · subst hj; simp [Addr.add]
        · simp [Addr.add, hj]
      refine .inr ⟨b, o, cap, by rw [hl], ?_, ?_⟩
      · have := World.block_lt_of_cell? W _ c0
        rw [ad] at this; exact this
      · intro k hk
        rw [hl] at hk
        have := h4 k (by omega)
        rw [ad] at this
        rw [this]
        simp [List.getD, List.getElem?_take, hk]
end Go.Proofs.YtlkhhpckgcdeeaaGreatDoor
