/-
  No cell of these rows narrows 'for every input' (looked for: loops, veiled, ifaces, maps, wideKeys, modest, calm, conditions, laid).
  DERIVED. THE GIVEN ROWS OF THIS SEAT. 12 by the template 'for every input the law returns true; each argument reads behind the call as it read before'; 0 by the template 'total and deterministic' (their statements: YteappinpgmpicaaTotals.lean).
  GIVEN WITH THE SEED: the statements are not yours to turn. If you find one false, say at which input.
  Laid BY PROGRAM, IN A SANDBOX (cutbox-rows.mjs): the forced cells as the released guide's own fill.sh prints them over the translation 1cafa5439348d99d… (all of the seat's roots in one cut). By AI agents, Wed Nov 11 2026. No macro, syntax, notation, axiom, sorry.
-/
import Derived.Test.YteappinpgmpicaaChecked
import GoSem.Claim
import GoSem.ClaimJoined
import GoSem.ClaimMapViews
import Derived.JoinedTies
import Derived.KernelRfl
namespace Go.Proofs.Yteappinpgmpicaa
/- THE CELL 'sum', in the pinned program and in every row, IS THE sha256 OF THE DUMP (.gsa) THAT YteappinpgmpicaaProg.lean LOADS. Nothing in Lean hashes anything: it is a label: what it is worth is what the hold of that sum in a sandbox is worth. -/
noncomputable def Try.pinned : Pinned := { name := "yteappinpgmpicaa", sum := "1cafa5439348d99d8e3de3d01fae26e2fd674e025b7b08492a91d02ec8a464bb", checked := Try.checked }
namespace Rows
def none {H : Type} : Left H := { results := [], args := [] }

/-- 'laws.FnExactIsMatrix': WHATEVER THE INPUT: true; the input reads as it did. -/
def fnExactIsMatrixSpec : ChangeSpec := { name := "fnExactIsMatrix", fn := fun _ => fun
  | [d] => { results := [.lit (.bool true)], args := [d] }
  | _ => none }
def fnExactIsMatrixRow : OpenClaim := { program := "yteappinpgmpicaa", sum := "1cafa5439348d99d8e3de3d01fae26e2fd674e025b7b08492a91d02ec8a464bb", func := "loop.example/g01380/laws.FnExactIsMatrix", spec := "fnExactIsMatrix", apart := false }
def FnExactIsMatrixSaid : Prop := fnExactIsMatrixRow.holds Try.pinned (OpenSpec.ofChange fnExactIsMatrixSpec)

/-- ITS FALSE NEIGHBOUR: 'it returns false'. Refute it at one input. -/
def fnExactIsMatrixWrong : ChangeSpec := { name := "fnExactIsMatrix", fn := fun _ => fun
  | [d] => { results := [.lit (.bool false)], args := [d] }
  | _ => none }
def FnExactIsMatrixWrongFalsely : Prop := fnExactIsMatrixRow.holds Try.pinned (OpenSpec.ofChange fnExactIsMatrixWrong)

/-- 'laws.FnExactConstants': WHATEVER THE INPUT: true; the input reads as it did. -/
def fnExactConstantsSpec : ChangeSpec := { name := "fnExactConstants", fn := fun _ => fun
  | [] => { results := [.lit (.bool true)], args := [] }
  | _ => none }
def fnExactConstantsRow : OpenClaim := { program := "yteappinpgmpicaa", sum := "1cafa5439348d99d8e3de3d01fae26e2fd674e025b7b08492a91d02ec8a464bb", func := "loop.example/g01380/laws.FnExactConstants", spec := "fnExactConstants", apart := false }
def FnExactConstantsSaid : Prop := fnExactConstantsRow.holds Try.pinned (OpenSpec.ofChange fnExactConstantsSpec)

/-- ITS FALSE NEIGHBOUR: 'it returns false'. Refute it at one input. -/
def fnExactConstantsWrong : ChangeSpec := { name := "fnExactConstants", fn := fun _ => fun
  | [] => { results := [.lit (.bool false)], args := [] }
  | _ => none }
def FnExactConstantsWrongFalsely : Prop := fnExactConstantsRow.holds Try.pinned (OpenSpec.ofChange fnExactConstantsWrong)

/-- 'laws.FnExactIsPositive': WHATEVER THE INPUT: true; the input reads as it did. -/
def fnExactIsPositiveSpec : ChangeSpec := { name := "fnExactIsPositive", fn := fun _ => fun
  | [d] => { results := [.lit (.bool true)], args := [d] }
  | _ => none }
def fnExactIsPositiveRow : OpenClaim := { program := "yteappinpgmpicaa", sum := "1cafa5439348d99d8e3de3d01fae26e2fd674e025b7b08492a91d02ec8a464bb", func := "loop.example/g01380/laws.FnExactIsPositive", spec := "fnExactIsPositive", apart := false }
def FnExactIsPositiveSaid : Prop := fnExactIsPositiveRow.holds Try.pinned (OpenSpec.ofChange fnExactIsPositiveSpec)

/-- ITS FALSE NEIGHBOUR: 'it returns false'. Refute it at one input. -/
def fnExactIsPositiveWrong : ChangeSpec := { name := "fnExactIsPositive", fn := fun _ => fun
  | [d] => { results := [.lit (.bool false)], args := [d] }
  | _ => none }
def FnExactIsPositiveWrongFalsely : Prop := fnExactIsPositiveRow.holds Try.pinned (OpenSpec.ofChange fnExactIsPositiveWrong)

/-- 'laws.FnExactTraceOf': WHATEVER THE INPUT: true; the input reads as it did. -/
def fnExactTraceOfSpec : ChangeSpec := { name := "fnExactTraceOf", fn := fun _ => fun
  | [d] => { results := [.lit (.bool true)], args := [d] }
  | _ => none }
def fnExactTraceOfRow : OpenClaim := { program := "yteappinpgmpicaa", sum := "1cafa5439348d99d8e3de3d01fae26e2fd674e025b7b08492a91d02ec8a464bb", func := "loop.example/g01380/laws.FnExactTraceOf", spec := "fnExactTraceOf", apart := false }
def FnExactTraceOfSaid : Prop := fnExactTraceOfRow.holds Try.pinned (OpenSpec.ofChange fnExactTraceOfSpec)

/-- ITS FALSE NEIGHBOUR: 'it returns false'. Refute it at one input. -/
def fnExactTraceOfWrong : ChangeSpec := { name := "fnExactTraceOf", fn := fun _ => fun
  | [d] => { results := [.lit (.bool false)], args := [d] }
  | _ => none }
def FnExactTraceOfWrongFalsely : Prop := fnExactTraceOfRow.holds Try.pinned (OpenSpec.ofChange fnExactTraceOfWrong)

/-- 'laws.FnExactIsFraction': WHATEVER THE INPUT: true; the input reads as it did. -/
def fnExactIsFractionSpec : ChangeSpec := { name := "fnExactIsFraction", fn := fun _ => fun
  | [d] => { results := [.lit (.bool true)], args := [d] }
  | _ => none }
def fnExactIsFractionRow : OpenClaim := { program := "yteappinpgmpicaa", sum := "1cafa5439348d99d8e3de3d01fae26e2fd674e025b7b08492a91d02ec8a464bb", func := "loop.example/g01380/laws.FnExactIsFraction", spec := "fnExactIsFraction", apart := false }
def FnExactIsFractionSaid : Prop := fnExactIsFractionRow.holds Try.pinned (OpenSpec.ofChange fnExactIsFractionSpec)

/-- ITS FALSE NEIGHBOUR: 'it returns false'. Refute it at one input. -/
def fnExactIsFractionWrong : ChangeSpec := { name := "fnExactIsFraction", fn := fun _ => fun
  | [d] => { results := [.lit (.bool false)], args := [d] }
  | _ => none }
def FnExactIsFractionWrongFalsely : Prop := fnExactIsFractionRow.holds Try.pinned (OpenSpec.ofChange fnExactIsFractionWrong)

/-- 'laws.FnExactInverseOf': WHATEVER THE INPUT: true; the input reads as it did. -/
def fnExactInverseOfSpec : ChangeSpec := { name := "fnExactInverseOf", fn := fun _ => fun
  | [d] => { results := [.lit (.bool true)], args := [d] }
  | _ => none }
def fnExactInverseOfRow : OpenClaim := { program := "yteappinpgmpicaa", sum := "1cafa5439348d99d8e3de3d01fae26e2fd674e025b7b08492a91d02ec8a464bb", func := "loop.example/g01380/laws.FnExactInverseOf", spec := "fnExactInverseOf", apart := false }
def FnExactInverseOfSaid : Prop := fnExactInverseOfRow.holds Try.pinned (OpenSpec.ofChange fnExactInverseOfSpec)

/-- ITS FALSE NEIGHBOUR: 'it returns false'. Refute it at one input. -/
def fnExactInverseOfWrong : ChangeSpec := { name := "fnExactInverseOf", fn := fun _ => fun
  | [d] => { results := [.lit (.bool false)], args := [d] }
  | _ => none }
def FnExactInverseOfWrongFalsely : Prop := fnExactInverseOfRow.holds Try.pinned (OpenSpec.ofChange fnExactInverseOfWrong)

/-- 'laws.FnExactCountModulo': WHATEVER THE INPUT: true; the input reads as it did. -/
def fnExactCountModuloSpec : ChangeSpec := { name := "fnExactCountModulo", fn := fun _ => fun
  | [d] => { results := [.lit (.bool true)], args := [d] }
  | _ => none }
def fnExactCountModuloRow : OpenClaim := { program := "yteappinpgmpicaa", sum := "1cafa5439348d99d8e3de3d01fae26e2fd674e025b7b08492a91d02ec8a464bb", func := "loop.example/g01380/laws.FnExactCountModulo", spec := "fnExactCountModulo", apart := false }
def FnExactCountModuloSaid : Prop := fnExactCountModuloRow.holds Try.pinned (OpenSpec.ofChange fnExactCountModuloSpec)

/-- ITS FALSE NEIGHBOUR: 'it returns false'. Refute it at one input. -/
def fnExactCountModuloWrong : ChangeSpec := { name := "fnExactCountModulo", fn := fun _ => fun
  | [d] => { results := [.lit (.bool false)], args := [d] }
  | _ => none }
def FnExactCountModuloWrongFalsely : Prop := fnExactCountModuloRow.holds Try.pinned (OpenSpec.ofChange fnExactCountModuloWrong)

/-- 'laws.FnExactNamedMatrix': WHATEVER THE INPUT: true; the input reads as it did. -/
def fnExactNamedMatrixSpec : ChangeSpec := { name := "fnExactNamedMatrix", fn := fun _ => fun
  | [d] => { results := [.lit (.bool true)], args := [d] }
  | _ => none }
def fnExactNamedMatrixRow : OpenClaim := { program := "yteappinpgmpicaa", sum := "1cafa5439348d99d8e3de3d01fae26e2fd674e025b7b08492a91d02ec8a464bb", func := "loop.example/g01380/laws.FnExactNamedMatrix", spec := "fnExactNamedMatrix", apart := false }
def FnExactNamedMatrixSaid : Prop := fnExactNamedMatrixRow.holds Try.pinned (OpenSpec.ofChange fnExactNamedMatrixSpec)

/-- ITS FALSE NEIGHBOUR: 'it returns false'. Refute it at one input. -/
def fnExactNamedMatrixWrong : ChangeSpec := { name := "fnExactNamedMatrix", fn := fun _ => fun
  | [d] => { results := [.lit (.bool false)], args := [d] }
  | _ => none }
def FnExactNamedMatrixWrongFalsely : Prop := fnExactNamedMatrixRow.holds Try.pinned (OpenSpec.ofChange fnExactNamedMatrixWrong)

/-- 'laws.FnExactCountInRow': WHATEVER THE INPUT: true; the input reads as it did. -/
def fnExactCountInRowSpec : ChangeSpec := { name := "fnExactCountInRow", fn := fun _ => fun
  | [d] => { results := [.lit (.bool true)], args := [d] }
  | _ => none }
def fnExactCountInRowRow : OpenClaim := { program := "yteappinpgmpicaa", sum := "1cafa5439348d99d8e3de3d01fae26e2fd674e025b7b08492a91d02ec8a464bb", func := "loop.example/g01380/laws.FnExactCountInRow", spec := "fnExactCountInRow", apart := false }
def FnExactCountInRowSaid : Prop := fnExactCountInRowRow.holds Try.pinned (OpenSpec.ofChange fnExactCountInRowSpec)

/-- ITS FALSE NEIGHBOUR: 'it returns false'. Refute it at one input. -/
def fnExactCountInRowWrong : ChangeSpec := { name := "fnExactCountInRow", fn := fun _ => fun
  | [d] => { results := [.lit (.bool false)], args := [d] }
  | _ => none }
def FnExactCountInRowWrongFalsely : Prop := fnExactCountInRowRow.holds Try.pinned (OpenSpec.ofChange fnExactCountInRowWrong)

/-- 'laws.FnExactSignBetween': WHATEVER THE INPUT: true; the input reads as it did. -/
def fnExactSignBetweenSpec : ChangeSpec := { name := "fnExactSignBetween", fn := fun _ => fun
  | [d1, d2] => { results := [.lit (.bool true)], args := [d1, d2] }
  | _ => none }
def fnExactSignBetweenRow : OpenClaim := { program := "yteappinpgmpicaa", sum := "1cafa5439348d99d8e3de3d01fae26e2fd674e025b7b08492a91d02ec8a464bb", func := "loop.example/g01380/laws.FnExactSignBetween", spec := "fnExactSignBetween", apart := false }
def FnExactSignBetweenSaid : Prop := fnExactSignBetweenRow.holds Try.pinned (OpenSpec.ofChange fnExactSignBetweenSpec)

/-- ITS FALSE NEIGHBOUR: 'it returns false'. Refute it at one input. -/
def fnExactSignBetweenWrong : ChangeSpec := { name := "fnExactSignBetween", fn := fun _ => fun
  | [d1, d2] => { results := [.lit (.bool false)], args := [d1, d2] }
  | _ => none }
def FnExactSignBetweenWrongFalsely : Prop := fnExactSignBetweenRow.holds Try.pinned (OpenSpec.ofChange fnExactSignBetweenWrong)

/-- 'laws.FnExactKindOf': WHATEVER THE INPUT: true; the input reads as it did. -/
def fnExactKindOfSpec : ChangeSpec := { name := "fnExactKindOf", fn := fun _ => fun
  | [d] => { results := [.lit (.bool true)], args := [d] }
  | _ => none }
def fnExactKindOfRow : OpenClaim := { program := "yteappinpgmpicaa", sum := "1cafa5439348d99d8e3de3d01fae26e2fd674e025b7b08492a91d02ec8a464bb", func := "loop.example/g01380/laws.FnExactKindOf", spec := "fnExactKindOf", apart := false }
def FnExactKindOfSaid : Prop := fnExactKindOfRow.holds Try.pinned (OpenSpec.ofChange fnExactKindOfSpec)

/-- ITS FALSE NEIGHBOUR: 'it returns false'. Refute it at one input. -/
def fnExactKindOfWrong : ChangeSpec := { name := "fnExactKindOf", fn := fun _ => fun
  | [d] => { results := [.lit (.bool false)], args := [d] }
  | _ => none }
def FnExactKindOfWrongFalsely : Prop := fnExactKindOfRow.holds Try.pinned (OpenSpec.ofChange fnExactKindOfWrong)

/-- 'laws.FnExactFractionOf': WHATEVER THE INPUT: true; the input reads as it did. -/
def fnExactFractionOfSpec : ChangeSpec := { name := "fnExactFractionOf", fn := fun _ => fun
  | [d1, d2] => { results := [.lit (.bool true)], args := [d1, d2] }
  | _ => none }
def fnExactFractionOfRow : OpenClaim := { program := "yteappinpgmpicaa", sum := "1cafa5439348d99d8e3de3d01fae26e2fd674e025b7b08492a91d02ec8a464bb", func := "loop.example/g01380/laws.FnExactFractionOf", spec := "fnExactFractionOf", apart := false }
def FnExactFractionOfSaid : Prop := fnExactFractionOfRow.holds Try.pinned (OpenSpec.ofChange fnExactFractionOfSpec)

/-- ITS FALSE NEIGHBOUR: 'it returns false'. Refute it at one input. -/
def fnExactFractionOfWrong : ChangeSpec := { name := "fnExactFractionOf", fn := fun _ => fun
  | [d1, d2] => { results := [.lit (.bool false)], args := [d1, d2] }
  | _ => none }
def FnExactFractionOfWrongFalsely : Prop := fnExactFractionOfRow.holds Try.pinned (OpenSpec.ofChange fnExactFractionOfWrong)

/- THE SECOND FORM. 'bulk': how many values and letters a reading holds, each counted each time it is reached (what is shared counts as often as it is met; a slice's spare places count too). A statement '..UptoSaid' is the law's where the arguments, and the package variables that the reading takes, are together of bulk at most 1048576: NARROWER than '..Said'. Prove '..Said' where nothing that the law and all that it calls make is longer than what came in: it says more and counts as full. Else prove '..UptoSaid'. A law counts once. -/
mutual
def uptoBulk {H : Type} : DataW H → Nat
  | .lit (.string bytes) => bytes.length + 1
  | .lit _ => 1
  | .nil => 1
  | .ptr d => uptoBulk d + 1
  | .slice elems spare => uptoBulkAll elems + uptoBulkAll spare + 1
  | .agg parts => uptoBulkAll parts + 1
  | .iface _ d => uptoBulk d + 1
  | .map entries => uptoBulkEntries entries + 1
  | .held _ => 1
def uptoBulkAll {H : Type} : List (DataW H) → Nat
  | [] => 0
  | d :: r => uptoBulk d + uptoBulkAll r
def uptoBulkEntries {H : Type} : List (Lit × DataW H) → Nat
  | [] => 0
  | x :: r => uptoBulkEntry x + uptoBulkEntries r
def uptoBulkEntry {H : Type} : Lit × DataW H → Nat
  | (.string bytes, d) => bytes.length + uptoBulk d + 1
  | (_, d) => uptoBulk d + 1
 end
def uptoSmall : (H : Type) → List (DataW H) → Bool := fun _ ds => decide (uptoBulkAll ds ≤ 1048576)
def OpenSpec.upto (s : _root_.Go.ChangeSpec) : _root_.Go.OpenSpec := { _root_.Go.OpenSpec.ofChange s with cond := some uptoSmall }

/-- 'laws.FnExactIsMatrix', WHERE WHAT IT READS IS OF BULK AT MOST 1048576: true; the input reads as it did. -/
def fnExactIsMatrixUptoRow : OpenClaim := { program := "yteappinpgmpicaa", sum := "1cafa5439348d99d8e3de3d01fae26e2fd674e025b7b08492a91d02ec8a464bb", func := "loop.example/g01380/laws.FnExactIsMatrix", spec := "fnExactIsMatrix", apart := false, narrowed := true }
def FnExactIsMatrixUptoSaid : Prop := fnExactIsMatrixUptoRow.holds Try.pinned (OpenSpec.upto fnExactIsMatrixSpec)

/-- 'laws.FnExactConstants', WHERE WHAT IT READS IS OF BULK AT MOST 1048576: true; the input reads as it did. -/
def fnExactConstantsUptoRow : OpenClaim := { program := "yteappinpgmpicaa", sum := "1cafa5439348d99d8e3de3d01fae26e2fd674e025b7b08492a91d02ec8a464bb", func := "loop.example/g01380/laws.FnExactConstants", spec := "fnExactConstants", apart := false, narrowed := true }
def FnExactConstantsUptoSaid : Prop := fnExactConstantsUptoRow.holds Try.pinned (OpenSpec.upto fnExactConstantsSpec)

/-- 'laws.FnExactIsPositive', WHERE WHAT IT READS IS OF BULK AT MOST 1048576: true; the input reads as it did. -/
def fnExactIsPositiveUptoRow : OpenClaim := { program := "yteappinpgmpicaa", sum := "1cafa5439348d99d8e3de3d01fae26e2fd674e025b7b08492a91d02ec8a464bb", func := "loop.example/g01380/laws.FnExactIsPositive", spec := "fnExactIsPositive", apart := false, narrowed := true }
def FnExactIsPositiveUptoSaid : Prop := fnExactIsPositiveUptoRow.holds Try.pinned (OpenSpec.upto fnExactIsPositiveSpec)

/-- 'laws.FnExactTraceOf', WHERE WHAT IT READS IS OF BULK AT MOST 1048576: true; the input reads as it did. -/
def fnExactTraceOfUptoRow : OpenClaim := { program := "yteappinpgmpicaa", sum := "1cafa5439348d99d8e3de3d01fae26e2fd674e025b7b08492a91d02ec8a464bb", func := "loop.example/g01380/laws.FnExactTraceOf", spec := "fnExactTraceOf", apart := false, narrowed := true }
def FnExactTraceOfUptoSaid : Prop := fnExactTraceOfUptoRow.holds Try.pinned (OpenSpec.upto fnExactTraceOfSpec)

/-- 'laws.FnExactIsFraction', WHERE WHAT IT READS IS OF BULK AT MOST 1048576: true; the input reads as it did. -/
def fnExactIsFractionUptoRow : OpenClaim := { program := "yteappinpgmpicaa", sum := "1cafa5439348d99d8e3de3d01fae26e2fd674e025b7b08492a91d02ec8a464bb", func := "loop.example/g01380/laws.FnExactIsFraction", spec := "fnExactIsFraction", apart := false, narrowed := true }
def FnExactIsFractionUptoSaid : Prop := fnExactIsFractionUptoRow.holds Try.pinned (OpenSpec.upto fnExactIsFractionSpec)

/-- 'laws.FnExactInverseOf', WHERE WHAT IT READS IS OF BULK AT MOST 1048576: true; the input reads as it did. -/
def fnExactInverseOfUptoRow : OpenClaim := { program := "yteappinpgmpicaa", sum := "1cafa5439348d99d8e3de3d01fae26e2fd674e025b7b08492a91d02ec8a464bb", func := "loop.example/g01380/laws.FnExactInverseOf", spec := "fnExactInverseOf", apart := false, narrowed := true }
def FnExactInverseOfUptoSaid : Prop := fnExactInverseOfUptoRow.holds Try.pinned (OpenSpec.upto fnExactInverseOfSpec)

/-- 'laws.FnExactCountModulo', WHERE WHAT IT READS IS OF BULK AT MOST 1048576: true; the input reads as it did. -/
def fnExactCountModuloUptoRow : OpenClaim := { program := "yteappinpgmpicaa", sum := "1cafa5439348d99d8e3de3d01fae26e2fd674e025b7b08492a91d02ec8a464bb", func := "loop.example/g01380/laws.FnExactCountModulo", spec := "fnExactCountModulo", apart := false, narrowed := true }
def FnExactCountModuloUptoSaid : Prop := fnExactCountModuloUptoRow.holds Try.pinned (OpenSpec.upto fnExactCountModuloSpec)

/-- 'laws.FnExactNamedMatrix', WHERE WHAT IT READS IS OF BULK AT MOST 1048576: true; the input reads as it did. -/
def fnExactNamedMatrixUptoRow : OpenClaim := { program := "yteappinpgmpicaa", sum := "1cafa5439348d99d8e3de3d01fae26e2fd674e025b7b08492a91d02ec8a464bb", func := "loop.example/g01380/laws.FnExactNamedMatrix", spec := "fnExactNamedMatrix", apart := false, narrowed := true }
def FnExactNamedMatrixUptoSaid : Prop := fnExactNamedMatrixUptoRow.holds Try.pinned (OpenSpec.upto fnExactNamedMatrixSpec)

/-- 'laws.FnExactCountInRow', WHERE WHAT IT READS IS OF BULK AT MOST 1048576: true; the input reads as it did. -/
def fnExactCountInRowUptoRow : OpenClaim := { program := "yteappinpgmpicaa", sum := "1cafa5439348d99d8e3de3d01fae26e2fd674e025b7b08492a91d02ec8a464bb", func := "loop.example/g01380/laws.FnExactCountInRow", spec := "fnExactCountInRow", apart := false, narrowed := true }
def FnExactCountInRowUptoSaid : Prop := fnExactCountInRowUptoRow.holds Try.pinned (OpenSpec.upto fnExactCountInRowSpec)

/-- 'laws.FnExactSignBetween', WHERE WHAT IT READS IS OF BULK AT MOST 1048576: true; the input reads as it did. -/
def fnExactSignBetweenUptoRow : OpenClaim := { program := "yteappinpgmpicaa", sum := "1cafa5439348d99d8e3de3d01fae26e2fd674e025b7b08492a91d02ec8a464bb", func := "loop.example/g01380/laws.FnExactSignBetween", spec := "fnExactSignBetween", apart := false, narrowed := true }
def FnExactSignBetweenUptoSaid : Prop := fnExactSignBetweenUptoRow.holds Try.pinned (OpenSpec.upto fnExactSignBetweenSpec)

/-- 'laws.FnExactKindOf', WHERE WHAT IT READS IS OF BULK AT MOST 1048576: true; the input reads as it did. -/
def fnExactKindOfUptoRow : OpenClaim := { program := "yteappinpgmpicaa", sum := "1cafa5439348d99d8e3de3d01fae26e2fd674e025b7b08492a91d02ec8a464bb", func := "loop.example/g01380/laws.FnExactKindOf", spec := "fnExactKindOf", apart := false, narrowed := true }
def FnExactKindOfUptoSaid : Prop := fnExactKindOfUptoRow.holds Try.pinned (OpenSpec.upto fnExactKindOfSpec)

/-- 'laws.FnExactFractionOf', WHERE WHAT IT READS IS OF BULK AT MOST 1048576: true; the input reads as it did. -/
def fnExactFractionOfUptoRow : OpenClaim := { program := "yteappinpgmpicaa", sum := "1cafa5439348d99d8e3de3d01fae26e2fd674e025b7b08492a91d02ec8a464bb", func := "loop.example/g01380/laws.FnExactFractionOf", spec := "fnExactFractionOf", apart := false, narrowed := true }
def FnExactFractionOfUptoSaid : Prop := fnExactFractionOfUptoRow.holds Try.pinned (OpenSpec.upto fnExactFractionOfSpec)

end Rows
end Go.Proofs.Yteappinpgmpicaa
