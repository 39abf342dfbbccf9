/-
  DERIVED. GIVEN WITH THE SEED: THE CARDS: each row of YtlkhhpckgcdeeaaGreatDoorRows.lean that lists a variable, with what it lists TIED to the program's text (the seventh form; the later family's looks); each row that meets fmt, with fmt's text TOLD by the authors' own Lean function (tested against real Go, not proved from fmt's source: count such statements apart). THE CARD IS WHAT COUNTS. Prove the row's statement (the work); the ties are given (YtlkhhpckgcdeeaaGreatDoorTie.lean); close each card by the builder's one call (the guide's Derived/Test/ToyasCard.lean, 'card_holds'). Laid BY PROGRAM, IN A SANDBOX (cutbox-door.mjs). By AI agents, Wed Nov 11 2026. No macro, syntax, notation, axiom, sorry.
-/
import Derived.Test.YtlkhhpckgcdeeaaGreatDoorRows
import GoSem.ClaimSeven
namespace Go.Proofs.YtlkhhpckgcdeeaaGreatDoor
namespace Rows

/-- THE TIED CARD OF 'laws.FnFractionsLed'. -/
def fnFractionsLedCard : Claim7 := { stood := { row := fnFractionsLedRow, standIns := [], harness := (true, "37018eedab983f4eab78f51fc7890533827ba298d9fbc58f0b85822c2d938434"), looks := true }, kinds := [], alts := [], laidByText := true, laidKinds := [.data, .data, .data, .data, .sentinel, .sentinel, .pinned], laidTests := true, laidLooks := .later }
def FnFractionsLedCardSaid : Prop := Claim7.holds Tryz.pinned (.plain (OpenSpec.ofChange fnFractionsLedSpec)) fnFractionsLedCard

/-- THE TIED CARD OF 'laws.FnMatrixProducts'. -/
def fnMatrixProductsCard : Claim7 := { stood := { row := fnMatrixProductsRow, standIns := [], harness := (true, "37018eedab983f4eab78f51fc7890533827ba298d9fbc58f0b85822c2d938434"), looks := true }, kinds := [], alts := [], laidByText := true, laidKinds := [.data, .data, .data, .data, .sentinel, .sentinel, .pinned], laidTests := true, laidLooks := .later }
def FnMatrixProductsCardSaid : Prop := Claim7.holds Tryz.pinned (.plain (OpenSpec.ofChange fnMatrixProductsSpec)) fnMatrixProductsCard

/-- THE SECOND FORM's CARD OF 'laws.FnFractionsLed'. -/
def fnFractionsLedUptoCard : Claim7 := { stood := { row := fnFractionsLedUptoRow, standIns := [], harness := (true, "37018eedab983f4eab78f51fc7890533827ba298d9fbc58f0b85822c2d938434"), looks := true }, kinds := [], alts := [], laidByText := true, laidKinds := [.data, .data, .data, .data, .sentinel, .sentinel, .pinned], laidTests := true, laidLooks := .later }
def FnFractionsLedUptoCardSaid : Prop := Claim7.holds Tryz.pinned (.plain (OpenSpec.upto fnFractionsLedSpec)) fnFractionsLedUptoCard

/-- THE SECOND FORM's CARD OF 'laws.FnMatrixProducts'. -/
def fnMatrixProductsUptoCard : Claim7 := { stood := { row := fnMatrixProductsUptoRow, standIns := [], harness := (true, "37018eedab983f4eab78f51fc7890533827ba298d9fbc58f0b85822c2d938434"), looks := true }, kinds := [], alts := [], laidByText := true, laidKinds := [.data, .data, .data, .data, .sentinel, .sentinel, .pinned], laidTests := true, laidLooks := .later }
def FnMatrixProductsUptoCardSaid : Prop := Claim7.holds Tryz.pinned (.plain (OpenSpec.upto fnMatrixProductsSpec)) fnMatrixProductsUptoCard
end Rows
end Go.Proofs.YtlkhhpckgcdeeaaGreatDoor
