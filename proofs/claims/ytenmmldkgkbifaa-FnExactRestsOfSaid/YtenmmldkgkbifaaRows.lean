/-
  No cell of these rows narrows 'for every input' (looked for: loops, veiled, ifaces, maps, wideKeys, modest, calm, conditions, laid).
  DERIVED. THE GIVEN ROWS OF THIS SEAT. 12 by the template 'for every input the law returns true; each argument reads behind the call as it read before'; 0 by the template 'total and deterministic' (their statements: YtenmmldkgkbifaaTotals.lean).
  GIVEN WITH THE SEED: the statements are not yours to turn. If you find one false, say at which input.
  Laid BY PROGRAM, IN A SANDBOX (cutbox-rows.mjs): the forced cells as the released guide's own fill.sh prints them over the translation 87b7cb5995d14e2f… (all of the seat's roots in one cut). By AI agents, Wed Nov 11 2026. No macro, syntax, notation, axiom, sorry.
-/
import Derived.Test.YtenmmldkgkbifaaChecked
import GoSem.Claim
import GoSem.ClaimJoined
import GoSem.ClaimMapViews
import Derived.JoinedTies
import Derived.KernelRfl
namespace Go.Proofs.Ytenmmldkgkbifaa
/- THE CELL 'sum', in the pinned program and in every row, IS THE sha256 OF THE DUMP (.gsa) THAT YtenmmldkgkbifaaProg.lean LOADS. Nothing in Lean hashes anything: it is a label: what it is worth is what the hold of that sum in a sandbox is worth. -/
noncomputable def Try.pinned : Pinned := { name := "ytenmmldkgkbifaa", sum := "87b7cb5995d14e2f3ccdf790a70efd650dd402d0ae622caf0d1e86ec8e0e9f02", checked := Try.checked }
namespace Rows
def none {H : Type} : Left H := { results := [], args := [] }

/-- 'laws.FnExactAreNeighbours': WHATEVER THE INPUT: true; the input reads as it did. -/
def fnExactAreNeighboursSpec : ChangeSpec := { name := "fnExactAreNeighbours", fn := fun _ => fun
  | [d1, d2] => { results := [.lit (.bool true)], args := [d1, d2] }
  | _ => none }
def fnExactAreNeighboursRow : OpenClaim := { program := "ytenmmldkgkbifaa", sum := "87b7cb5995d14e2f3ccdf790a70efd650dd402d0ae622caf0d1e86ec8e0e9f02", func := "loop.example/g01380/laws.FnExactAreNeighbours", spec := "fnExactAreNeighbours", apart := false }
def FnExactAreNeighboursSaid : Prop := fnExactAreNeighboursRow.holds Try.pinned (OpenSpec.ofChange fnExactAreNeighboursSpec)

/-- ITS FALSE NEIGHBOUR: 'it returns false'. Refute it at one input. -/
def fnExactAreNeighboursWrong : ChangeSpec := { name := "fnExactAreNeighbours", fn := fun _ => fun
  | [d1, d2] => { results := [.lit (.bool false)], args := [d1, d2] }
  | _ => none }
def FnExactAreNeighboursWrongFalsely : Prop := fnExactAreNeighboursRow.holds Try.pinned (OpenSpec.ofChange fnExactAreNeighboursWrong)

/-- 'laws.FnExactRestsOf': WHATEVER THE INPUT: true; the input reads as it did. -/
def fnExactRestsOfSpec : ChangeSpec := { name := "fnExactRestsOf", fn := fun _ => fun
  | [d1, d2] => { results := [.lit (.bool true)], args := [d1, d2] }
  | _ => none }
def fnExactRestsOfRow : OpenClaim := { program := "ytenmmldkgkbifaa", sum := "87b7cb5995d14e2f3ccdf790a70efd650dd402d0ae622caf0d1e86ec8e0e9f02", func := "loop.example/g01380/laws.FnExactRestsOf", spec := "fnExactRestsOf", apart := false }
def FnExactRestsOfSaid : Prop := fnExactRestsOfRow.holds Try.pinned (OpenSpec.ofChange fnExactRestsOfSpec)

/-- ITS FALSE NEIGHBOUR: 'it returns false'. Refute it at one input. -/
def fnExactRestsOfWrong : ChangeSpec := { name := "fnExactRestsOf", fn := fun _ => fun
  | [d1, d2] => { results := [.lit (.bool false)], args := [d1, d2] }
  | _ => none }
def FnExactRestsOfWrongFalsely : Prop := fnExactRestsOfRow.holds Try.pinned (OpenSpec.ofChange fnExactRestsOfWrong)

/-- 'laws.FnExactCompareFractions': WHATEVER THE INPUT: true; the input reads as it did. -/
def fnExactCompareFractionsSpec : ChangeSpec := { name := "fnExactCompareFractions", fn := fun _ => fun
  | [d1, d2] => { results := [.lit (.bool true)], args := [d1, d2] }
  | _ => none }
def fnExactCompareFractionsRow : OpenClaim := { program := "ytenmmldkgkbifaa", sum := "87b7cb5995d14e2f3ccdf790a70efd650dd402d0ae622caf0d1e86ec8e0e9f02", func := "loop.example/g01380/laws.FnExactCompareFractions", spec := "fnExactCompareFractions", apart := false }
def FnExactCompareFractionsSaid : Prop := fnExactCompareFractionsRow.holds Try.pinned (OpenSpec.ofChange fnExactCompareFractionsSpec)

/-- ITS FALSE NEIGHBOUR: 'it returns false'. Refute it at one input. -/
def fnExactCompareFractionsWrong : ChangeSpec := { name := "fnExactCompareFractions", fn := fun _ => fun
  | [d1, d2] => { results := [.lit (.bool false)], args := [d1, d2] }
  | _ => none }
def FnExactCompareFractionsWrongFalsely : Prop := fnExactCompareFractionsRow.holds Try.pinned (OpenSpec.ofChange fnExactCompareFractionsWrong)

/-- 'laws.FnExactMatricesWithin': WHATEVER THE INPUT: true; the input reads as it did. -/
def fnExactMatricesWithinSpec : ChangeSpec := { name := "fnExactMatricesWithin", fn := fun _ => fun
  | [d] => { results := [.lit (.bool true)], args := [d] }
  | _ => none }
def fnExactMatricesWithinRow : OpenClaim := { program := "ytenmmldkgkbifaa", sum := "87b7cb5995d14e2f3ccdf790a70efd650dd402d0ae622caf0d1e86ec8e0e9f02", func := "loop.example/g01380/laws.FnExactMatricesWithin", spec := "fnExactMatricesWithin", apart := false }
def FnExactMatricesWithinSaid : Prop := fnExactMatricesWithinRow.holds Try.pinned (OpenSpec.ofChange fnExactMatricesWithinSpec)

/-- ITS FALSE NEIGHBOUR: 'it returns false'. Refute it at one input. -/
def fnExactMatricesWithinWrong : ChangeSpec := { name := "fnExactMatricesWithin", fn := fun _ => fun
  | [d] => { results := [.lit (.bool false)], args := [d] }
  | _ => none }
def FnExactMatricesWithinWrongFalsely : Prop := fnExactMatricesWithinRow.holds Try.pinned (OpenSpec.ofChange fnExactMatricesWithinWrong)

/-- 'laws.FnExactMatrixOfNeighbours': WHATEVER THE INPUT: true; the input reads as it did. -/
def fnExactMatrixOfNeighboursSpec : ChangeSpec := { name := "fnExactMatrixOfNeighbours", fn := fun _ => fun
  | [d1, d2] => { results := [.lit (.bool true)], args := [d1, d2] }
  | _ => none }
def fnExactMatrixOfNeighboursRow : OpenClaim := { program := "ytenmmldkgkbifaa", sum := "87b7cb5995d14e2f3ccdf790a70efd650dd402d0ae622caf0d1e86ec8e0e9f02", func := "loop.example/g01380/laws.FnExactMatrixOfNeighbours", spec := "fnExactMatrixOfNeighbours", apart := false }
def FnExactMatrixOfNeighboursSaid : Prop := fnExactMatrixOfNeighboursRow.holds Try.pinned (OpenSpec.ofChange fnExactMatrixOfNeighboursSpec)

/-- ITS FALSE NEIGHBOUR: 'it returns false'. Refute it at one input. -/
def fnExactMatrixOfNeighboursWrong : ChangeSpec := { name := "fnExactMatrixOfNeighbours", fn := fun _ => fun
  | [d1, d2] => { results := [.lit (.bool false)], args := [d1, d2] }
  | _ => none }
def FnExactMatrixOfNeighboursWrongFalsely : Prop := fnExactMatrixOfNeighboursRow.holds Try.pinned (OpenSpec.ofChange fnExactMatrixOfNeighboursWrong)

/-- 'laws.FnExactOrderOf': WHATEVER THE INPUT: true; the input reads as it did. -/
def fnExactOrderOfSpec : ChangeSpec := { name := "fnExactOrderOf", fn := fun _ => fun
  | [d] => { results := [.lit (.bool true)], args := [d] }
  | _ => none }
def fnExactOrderOfRow : OpenClaim := { program := "ytenmmldkgkbifaa", sum := "87b7cb5995d14e2f3ccdf790a70efd650dd402d0ae622caf0d1e86ec8e0e9f02", func := "loop.example/g01380/laws.FnExactOrderOf", spec := "fnExactOrderOf", apart := false }
def FnExactOrderOfSaid : Prop := fnExactOrderOfRow.holds Try.pinned (OpenSpec.ofChange fnExactOrderOfSpec)

/-- ITS FALSE NEIGHBOUR: 'it returns false'. Refute it at one input. -/
def fnExactOrderOfWrong : ChangeSpec := { name := "fnExactOrderOf", fn := fun _ => fun
  | [d] => { results := [.lit (.bool false)], args := [d] }
  | _ => none }
def FnExactOrderOfWrongFalsely : Prop := fnExactOrderOfRow.holds Try.pinned (OpenSpec.ofChange fnExactOrderOfWrong)

/-- 'laws.FnExactProductOf': WHATEVER THE INPUT: true; the input reads as it did. -/
def fnExactProductOfSpec : ChangeSpec := { name := "fnExactProductOf", fn := fun _ => fun
  | [d1, d2] => { results := [.lit (.bool true)], args := [d1, d2] }
  | _ => none }
def fnExactProductOfRow : OpenClaim := { program := "ytenmmldkgkbifaa", sum := "87b7cb5995d14e2f3ccdf790a70efd650dd402d0ae622caf0d1e86ec8e0e9f02", func := "loop.example/g01380/laws.FnExactProductOf", spec := "fnExactProductOf", apart := false }
def FnExactProductOfSaid : Prop := fnExactProductOfRow.holds Try.pinned (OpenSpec.ofChange fnExactProductOfSpec)

/-- ITS FALSE NEIGHBOUR: 'it returns false'. Refute it at one input. -/
def fnExactProductOfWrong : ChangeSpec := { name := "fnExactProductOf", fn := fun _ => fun
  | [d1, d2] => { results := [.lit (.bool false)], args := [d1, d2] }
  | _ => none }
def FnExactProductOfWrongFalsely : Prop := fnExactProductOfRow.holds Try.pinned (OpenSpec.ofChange fnExactProductOfWrong)

/-- 'laws.FnExactFareyRow': WHATEVER THE INPUT: true; the input reads as it did. -/
def fnExactFareyRowSpec : ChangeSpec := { name := "fnExactFareyRow", fn := fun _ => fun
  | [d] => { results := [.lit (.bool true)], args := [d] }
  | _ => none }
def fnExactFareyRowRow : OpenClaim := { program := "ytenmmldkgkbifaa", sum := "87b7cb5995d14e2f3ccdf790a70efd650dd402d0ae622caf0d1e86ec8e0e9f02", func := "loop.example/g01380/laws.FnExactFareyRow", spec := "fnExactFareyRow", apart := false }
def FnExactFareyRowSaid : Prop := fnExactFareyRowRow.holds Try.pinned (OpenSpec.ofChange fnExactFareyRowSpec)

/-- ITS FALSE NEIGHBOUR: 'it returns false'. Refute it at one input. -/
def fnExactFareyRowWrong : ChangeSpec := { name := "fnExactFareyRow", fn := fun _ => fun
  | [d] => { results := [.lit (.bool false)], args := [d] }
  | _ => none }
def FnExactFareyRowWrongFalsely : Prop := fnExactFareyRowRow.holds Try.pinned (OpenSpec.ofChange fnExactFareyRowWrong)

/-- 'laws.FnExactCommutatorOf': WHATEVER THE INPUT: true; the input reads as it did. -/
def fnExactCommutatorOfSpec : ChangeSpec := { name := "fnExactCommutatorOf", fn := fun _ => fun
  | [d1, d2] => { results := [.lit (.bool true)], args := [d1, d2] }
  | _ => none }
def fnExactCommutatorOfRow : OpenClaim := { program := "ytenmmldkgkbifaa", sum := "87b7cb5995d14e2f3ccdf790a70efd650dd402d0ae622caf0d1e86ec8e0e9f02", func := "loop.example/g01380/laws.FnExactCommutatorOf", spec := "fnExactCommutatorOf", apart := false }
def FnExactCommutatorOfSaid : Prop := fnExactCommutatorOfRow.holds Try.pinned (OpenSpec.ofChange fnExactCommutatorOfSpec)

/-- ITS FALSE NEIGHBOUR: 'it returns false'. Refute it at one input. -/
def fnExactCommutatorOfWrong : ChangeSpec := { name := "fnExactCommutatorOf", fn := fun _ => fun
  | [d1, d2] => { results := [.lit (.bool false)], args := [d1, d2] }
  | _ => none }
def FnExactCommutatorOfWrongFalsely : Prop := fnExactCommutatorOfRow.holds Try.pinned (OpenSpec.ofChange fnExactCommutatorOfWrong)

/-- 'laws.FnExactConjugateBy': WHATEVER THE INPUT: true; the input reads as it did. -/
def fnExactConjugateBySpec : ChangeSpec := { name := "fnExactConjugateBy", fn := fun _ => fun
  | [d1, d2] => { results := [.lit (.bool true)], args := [d1, d2] }
  | _ => none }
def fnExactConjugateByRow : OpenClaim := { program := "ytenmmldkgkbifaa", sum := "87b7cb5995d14e2f3ccdf790a70efd650dd402d0ae622caf0d1e86ec8e0e9f02", func := "loop.example/g01380/laws.FnExactConjugateBy", spec := "fnExactConjugateBy", apart := false }
def FnExactConjugateBySaid : Prop := fnExactConjugateByRow.holds Try.pinned (OpenSpec.ofChange fnExactConjugateBySpec)

/-- ITS FALSE NEIGHBOUR: 'it returns false'. Refute it at one input. -/
def fnExactConjugateByWrong : ChangeSpec := { name := "fnExactConjugateBy", fn := fun _ => fun
  | [d1, d2] => { results := [.lit (.bool false)], args := [d1, d2] }
  | _ => none }
def FnExactConjugateByWrongFalsely : Prop := fnExactConjugateByRow.holds Try.pinned (OpenSpec.ofChange fnExactConjugateByWrong)

/-- 'laws.FnExactNextInRow': WHATEVER THE INPUT: true; the input reads as it did. -/
def fnExactNextInRowSpec : ChangeSpec := { name := "fnExactNextInRow", fn := fun _ => fun
  | [d1, d2] => { results := [.lit (.bool true)], args := [d1, d2] }
  | _ => none }
def fnExactNextInRowRow : OpenClaim := { program := "ytenmmldkgkbifaa", sum := "87b7cb5995d14e2f3ccdf790a70efd650dd402d0ae622caf0d1e86ec8e0e9f02", func := "loop.example/g01380/laws.FnExactNextInRow", spec := "fnExactNextInRow", apart := false }
def FnExactNextInRowSaid : Prop := fnExactNextInRowRow.holds Try.pinned (OpenSpec.ofChange fnExactNextInRowSpec)

/-- ITS FALSE NEIGHBOUR: 'it returns false'. Refute it at one input. -/
def fnExactNextInRowWrong : ChangeSpec := { name := "fnExactNextInRow", fn := fun _ => fun
  | [d1, d2] => { results := [.lit (.bool false)], args := [d1, d2] }
  | _ => none }
def FnExactNextInRowWrongFalsely : Prop := fnExactNextInRowRow.holds Try.pinned (OpenSpec.ofChange fnExactNextInRowWrong)

/-- 'laws.FnExactMediantOf': WHATEVER THE INPUT: true; the input reads as it did. -/
def fnExactMediantOfSpec : ChangeSpec := { name := "fnExactMediantOf", fn := fun _ => fun
  | [d1, d2] => { results := [.lit (.bool true)], args := [d1, d2] }
  | _ => none }
def fnExactMediantOfRow : OpenClaim := { program := "ytenmmldkgkbifaa", sum := "87b7cb5995d14e2f3ccdf790a70efd650dd402d0ae622caf0d1e86ec8e0e9f02", func := "loop.example/g01380/laws.FnExactMediantOf", spec := "fnExactMediantOf", apart := false }
def FnExactMediantOfSaid : Prop := fnExactMediantOfRow.holds Try.pinned (OpenSpec.ofChange fnExactMediantOfSpec)

/-- ITS FALSE NEIGHBOUR: 'it returns false'. Refute it at one input. -/
def fnExactMediantOfWrong : ChangeSpec := { name := "fnExactMediantOf", fn := fun _ => fun
  | [d1, d2] => { results := [.lit (.bool false)], args := [d1, d2] }
  | _ => none }
def FnExactMediantOfWrongFalsely : Prop := fnExactMediantOfRow.holds Try.pinned (OpenSpec.ofChange fnExactMediantOfWrong)

/- THE SECOND FORM. 'bulk': how many values and letters a reading holds, each counted each time it is reached (what is shared counts as often as it is met; a slice's spare places count too). A statement '..UptoSaid' is the law's where the arguments, and the package variables that the reading takes, are together of bulk at most 1048576: NARROWER than '..Said'. Prove '..Said' where nothing that the law and all that it calls make is longer than what came in: it says more and counts as full. Else prove '..UptoSaid'. A law counts once. -/
mutual
def uptoBulk {H : Type} : DataW H → Nat
  | .lit (.string bytes) => bytes.length + 1
  | .lit _ => 1
  | .nil => 1
  | .ptr d => uptoBulk d + 1
  | .slice elems spare => uptoBulkAll elems + uptoBulkAll spare + 1
  | .agg parts => uptoBulkAll parts + 1
  | .iface _ d => uptoBulk d + 1
  | .map entries => uptoBulkEntries entries + 1
  | .held _ => 1
def uptoBulkAll {H : Type} : List (DataW H) → Nat
  | [] => 0
  | d :: r => uptoBulk d + uptoBulkAll r
def uptoBulkEntries {H : Type} : List (Lit × DataW H) → Nat
  | [] => 0
  | x :: r => uptoBulkEntry x + uptoBulkEntries r
def uptoBulkEntry {H : Type} : Lit × DataW H → Nat
  | (.string bytes, d) => bytes.length + uptoBulk d + 1
  | (_, d) => uptoBulk d + 1
 end
def uptoSmall : (H : Type) → List (DataW H) → Bool := fun _ ds => decide (uptoBulkAll ds ≤ 1048576)
def OpenSpec.upto (s : _root_.Go.ChangeSpec) : _root_.Go.OpenSpec := { _root_.Go.OpenSpec.ofChange s with cond := some uptoSmall }

/-- 'laws.FnExactAreNeighbours', WHERE WHAT IT READS IS OF BULK AT MOST 1048576: true; the input reads as it did. -/
def fnExactAreNeighboursUptoRow : OpenClaim := { program := "ytenmmldkgkbifaa", sum := "87b7cb5995d14e2f3ccdf790a70efd650dd402d0ae622caf0d1e86ec8e0e9f02", func := "loop.example/g01380/laws.FnExactAreNeighbours", spec := "fnExactAreNeighbours", apart := false, narrowed := true }
def FnExactAreNeighboursUptoSaid : Prop := fnExactAreNeighboursUptoRow.holds Try.pinned (OpenSpec.upto fnExactAreNeighboursSpec)

/-- 'laws.FnExactRestsOf', WHERE WHAT IT READS IS OF BULK AT MOST 1048576: true; the input reads as it did. -/
def fnExactRestsOfUptoRow : OpenClaim := { program := "ytenmmldkgkbifaa", sum := "87b7cb5995d14e2f3ccdf790a70efd650dd402d0ae622caf0d1e86ec8e0e9f02", func := "loop.example/g01380/laws.FnExactRestsOf", spec := "fnExactRestsOf", apart := false, narrowed := true }
def FnExactRestsOfUptoSaid : Prop := fnExactRestsOfUptoRow.holds Try.pinned (OpenSpec.upto fnExactRestsOfSpec)

/-- 'laws.FnExactCompareFractions', WHERE WHAT IT READS IS OF BULK AT MOST 1048576: true; the input reads as it did. -/
def fnExactCompareFractionsUptoRow : OpenClaim := { program := "ytenmmldkgkbifaa", sum := "87b7cb5995d14e2f3ccdf790a70efd650dd402d0ae622caf0d1e86ec8e0e9f02", func := "loop.example/g01380/laws.FnExactCompareFractions", spec := "fnExactCompareFractions", apart := false, narrowed := true }
def FnExactCompareFractionsUptoSaid : Prop := fnExactCompareFractionsUptoRow.holds Try.pinned (OpenSpec.upto fnExactCompareFractionsSpec)

/-- 'laws.FnExactMatricesWithin', WHERE WHAT IT READS IS OF BULK AT MOST 1048576: true; the input reads as it did. -/
def fnExactMatricesWithinUptoRow : OpenClaim := { program := "ytenmmldkgkbifaa", sum := "87b7cb5995d14e2f3ccdf790a70efd650dd402d0ae622caf0d1e86ec8e0e9f02", func := "loop.example/g01380/laws.FnExactMatricesWithin", spec := "fnExactMatricesWithin", apart := false, narrowed := true }
def FnExactMatricesWithinUptoSaid : Prop := fnExactMatricesWithinUptoRow.holds Try.pinned (OpenSpec.upto fnExactMatricesWithinSpec)

/-- 'laws.FnExactMatrixOfNeighbours', WHERE WHAT IT READS IS OF BULK AT MOST 1048576: true; the input reads as it did. -/
def fnExactMatrixOfNeighboursUptoRow : OpenClaim := { program := "ytenmmldkgkbifaa", sum := "87b7cb5995d14e2f3ccdf790a70efd650dd402d0ae622caf0d1e86ec8e0e9f02", func := "loop.example/g01380/laws.FnExactMatrixOfNeighbours", spec := "fnExactMatrixOfNeighbours", apart := false, narrowed := true }
def FnExactMatrixOfNeighboursUptoSaid : Prop := fnExactMatrixOfNeighboursUptoRow.holds Try.pinned (OpenSpec.upto fnExactMatrixOfNeighboursSpec)

/-- 'laws.FnExactOrderOf', WHERE WHAT IT READS IS OF BULK AT MOST 1048576: true; the input reads as it did. -/
def fnExactOrderOfUptoRow : OpenClaim := { program := "ytenmmldkgkbifaa", sum := "87b7cb5995d14e2f3ccdf790a70efd650dd402d0ae622caf0d1e86ec8e0e9f02", func := "loop.example/g01380/laws.FnExactOrderOf", spec := "fnExactOrderOf", apart := false, narrowed := true }
def FnExactOrderOfUptoSaid : Prop := fnExactOrderOfUptoRow.holds Try.pinned (OpenSpec.upto fnExactOrderOfSpec)

/-- 'laws.FnExactProductOf', WHERE WHAT IT READS IS OF BULK AT MOST 1048576: true; the input reads as it did. -/
def fnExactProductOfUptoRow : OpenClaim := { program := "ytenmmldkgkbifaa", sum := "87b7cb5995d14e2f3ccdf790a70efd650dd402d0ae622caf0d1e86ec8e0e9f02", func := "loop.example/g01380/laws.FnExactProductOf", spec := "fnExactProductOf", apart := false, narrowed := true }
def FnExactProductOfUptoSaid : Prop := fnExactProductOfUptoRow.holds Try.pinned (OpenSpec.upto fnExactProductOfSpec)

/-- 'laws.FnExactFareyRow', WHERE WHAT IT READS IS OF BULK AT MOST 1048576: true; the input reads as it did. -/
def fnExactFareyRowUptoRow : OpenClaim := { program := "ytenmmldkgkbifaa", sum := "87b7cb5995d14e2f3ccdf790a70efd650dd402d0ae622caf0d1e86ec8e0e9f02", func := "loop.example/g01380/laws.FnExactFareyRow", spec := "fnExactFareyRow", apart := false, narrowed := true }
def FnExactFareyRowUptoSaid : Prop := fnExactFareyRowUptoRow.holds Try.pinned (OpenSpec.upto fnExactFareyRowSpec)

/-- 'laws.FnExactCommutatorOf', WHERE WHAT IT READS IS OF BULK AT MOST 1048576: true; the input reads as it did. -/
def fnExactCommutatorOfUptoRow : OpenClaim := { program := "ytenmmldkgkbifaa", sum := "87b7cb5995d14e2f3ccdf790a70efd650dd402d0ae622caf0d1e86ec8e0e9f02", func := "loop.example/g01380/laws.FnExactCommutatorOf", spec := "fnExactCommutatorOf", apart := false, narrowed := true }
def FnExactCommutatorOfUptoSaid : Prop := fnExactCommutatorOfUptoRow.holds Try.pinned (OpenSpec.upto fnExactCommutatorOfSpec)

/-- 'laws.FnExactConjugateBy', WHERE WHAT IT READS IS OF BULK AT MOST 1048576: true; the input reads as it did. -/
def fnExactConjugateByUptoRow : OpenClaim := { program := "ytenmmldkgkbifaa", sum := "87b7cb5995d14e2f3ccdf790a70efd650dd402d0ae622caf0d1e86ec8e0e9f02", func := "loop.example/g01380/laws.FnExactConjugateBy", spec := "fnExactConjugateBy", apart := false, narrowed := true }
def FnExactConjugateByUptoSaid : Prop := fnExactConjugateByUptoRow.holds Try.pinned (OpenSpec.upto fnExactConjugateBySpec)

/-- 'laws.FnExactNextInRow', WHERE WHAT IT READS IS OF BULK AT MOST 1048576: true; the input reads as it did. -/
def fnExactNextInRowUptoRow : OpenClaim := { program := "ytenmmldkgkbifaa", sum := "87b7cb5995d14e2f3ccdf790a70efd650dd402d0ae622caf0d1e86ec8e0e9f02", func := "loop.example/g01380/laws.FnExactNextInRow", spec := "fnExactNextInRow", apart := false, narrowed := true }
def FnExactNextInRowUptoSaid : Prop := fnExactNextInRowUptoRow.holds Try.pinned (OpenSpec.upto fnExactNextInRowSpec)

/-- 'laws.FnExactMediantOf', WHERE WHAT IT READS IS OF BULK AT MOST 1048576: true; the input reads as it did. -/
def fnExactMediantOfUptoRow : OpenClaim := { program := "ytenmmldkgkbifaa", sum := "87b7cb5995d14e2f3ccdf790a70efd650dd402d0ae622caf0d1e86ec8e0e9f02", func := "loop.example/g01380/laws.FnExactMediantOf", spec := "fnExactMediantOf", apart := false, narrowed := true }
def FnExactMediantOfUptoSaid : Prop := fnExactMediantOfUptoRow.holds Try.pinned (OpenSpec.upto fnExactMediantOfSpec)

end Rows
end Go.Proofs.Ytenmmldkgkbifaa
