/-
  No cell of these rows narrows 'for every input' (looked for: loops, veiled, ifaces, maps, wideKeys, modest, calm, conditions, laid).
  DERIVED. THE GIVEN ROWS OF THIS SEAT. 12 by the template 'for every input the law returns true; each argument reads behind the call as it read before'; 0 by the template 'total and deterministic' (their statements: YtmopjfjmmdnapaaTotals.lean).
  GIVEN WITH THE SEED: the statements are not yours to turn. If you find one false, say at which input.
  Laid BY PROGRAM, IN A SANDBOX (cutbox-rows.mjs): the forced cells as the released guide's own fill.sh prints them over the translation 0626b717d2dd8ad4… (all of the seat's roots in one cut). By AI agents, Wed Nov 11 2026. No macro, syntax, notation, axiom, sorry.
-/
import Derived.Test.YtmopjfjmmdnapaaChecked
import GoSem.Claim
import GoSem.ClaimJoined
import GoSem.ClaimMapViews
import Derived.JoinedTies
import Derived.KernelRfl
namespace Go.Proofs.Ytmopjfjmmdnapaa
/- THE CELL 'sum', in the pinned program and in every row, IS THE sha256 OF THE DUMP (.gsa) THAT YtmopjfjmmdnapaaProg.lean LOADS. Nothing in Lean hashes anything: it is a label: what it is worth is what the hold of that sum in a sandbox is worth. -/
noncomputable def Try.pinned : Pinned := { name := "ytmopjfjmmdnapaa", sum := "0626b717d2dd8ad492ee69e082390fee6e6f9aa3aa9ea8480446d1cbd260e875", checked := Try.checked }
namespace Rows
def none {H : Type} : Left H := { results := [], args := [] }

/-- 'laws.FnExactChainOf': WHATEVER THE INPUT: true; the input reads as it did. -/
def fnExactChainOfSpec : ChangeSpec := { name := "fnExactChainOf", fn := fun _ => fun
  | [d] => { results := [.lit (.bool true)], args := [d] }
  | _ => none }
def fnExactChainOfRow : OpenClaim := { program := "ytmopjfjmmdnapaa", sum := "0626b717d2dd8ad492ee69e082390fee6e6f9aa3aa9ea8480446d1cbd260e875", func := "loop.example/g01380/laws.FnExactChainOf", spec := "fnExactChainOf", apart := false }
def FnExactChainOfSaid : Prop := fnExactChainOfRow.holds Try.pinned (OpenSpec.ofChange fnExactChainOfSpec)

/-- ITS FALSE NEIGHBOUR: 'it returns false'. Refute it at one input. -/
def fnExactChainOfWrong : ChangeSpec := { name := "fnExactChainOf", fn := fun _ => fun
  | [d] => { results := [.lit (.bool false)], args := [d] }
  | _ => none }
def FnExactChainOfWrongFalsely : Prop := fnExactChainOfRow.holds Try.pinned (OpenSpec.ofChange fnExactChainOfWrong)

/-- 'laws.FnExactFractionOfContinued': WHATEVER THE INPUT: true; the input reads as it did. -/
def fnExactFractionOfContinuedSpec : ChangeSpec := { name := "fnExactFractionOfContinued", fn := fun _ => fun
  | [d] => { results := [.lit (.bool true)], args := [d] }
  | _ => none }
def fnExactFractionOfContinuedRow : OpenClaim := { program := "ytmopjfjmmdnapaa", sum := "0626b717d2dd8ad492ee69e082390fee6e6f9aa3aa9ea8480446d1cbd260e875", func := "loop.example/g01380/laws.FnExactFractionOfContinued", spec := "fnExactFractionOfContinued", apart := false }
def FnExactFractionOfContinuedSaid : Prop := fnExactFractionOfContinuedRow.holds Try.pinned (OpenSpec.ofChange fnExactFractionOfContinuedSpec)

/-- ITS FALSE NEIGHBOUR: 'it returns false'. Refute it at one input. -/
def fnExactFractionOfContinuedWrong : ChangeSpec := { name := "fnExactFractionOfContinued", fn := fun _ => fun
  | [d] => { results := [.lit (.bool false)], args := [d] }
  | _ => none }
def FnExactFractionOfContinuedWrongFalsely : Prop := fnExactFractionOfContinuedRow.holds Try.pinned (OpenSpec.ofChange fnExactFractionOfContinuedWrong)

/-- 'laws.FnExactMatrixOfRuns': WHATEVER THE INPUT: true; the input reads as it did. -/
def fnExactMatrixOfRunsSpec : ChangeSpec := { name := "fnExactMatrixOfRuns", fn := fun _ => fun
  | [d] => { results := [.lit (.bool true)], args := [d] }
  | _ => none }
def fnExactMatrixOfRunsRow : OpenClaim := { program := "ytmopjfjmmdnapaa", sum := "0626b717d2dd8ad492ee69e082390fee6e6f9aa3aa9ea8480446d1cbd260e875", func := "loop.example/g01380/laws.FnExactMatrixOfRuns", spec := "fnExactMatrixOfRuns", apart := false }
def FnExactMatrixOfRunsSaid : Prop := fnExactMatrixOfRunsRow.holds Try.pinned (OpenSpec.ofChange fnExactMatrixOfRunsSpec)

/-- ITS FALSE NEIGHBOUR: 'it returns false'. Refute it at one input. -/
def fnExactMatrixOfRunsWrong : ChangeSpec := { name := "fnExactMatrixOfRuns", fn := fun _ => fun
  | [d] => { results := [.lit (.bool false)], args := [d] }
  | _ => none }
def FnExactMatrixOfRunsWrongFalsely : Prop := fnExactMatrixOfRunsRow.holds Try.pinned (OpenSpec.ofChange fnExactMatrixOfRunsWrong)

/-- 'laws.FnExactContinuedOf': WHATEVER THE INPUT: true; the input reads as it did. -/
def fnExactContinuedOfSpec : ChangeSpec := { name := "fnExactContinuedOf", fn := fun _ => fun
  | [d] => { results := [.lit (.bool true)], args := [d] }
  | _ => none }
def fnExactContinuedOfRow : OpenClaim := { program := "ytmopjfjmmdnapaa", sum := "0626b717d2dd8ad492ee69e082390fee6e6f9aa3aa9ea8480446d1cbd260e875", func := "loop.example/g01380/laws.FnExactContinuedOf", spec := "fnExactContinuedOf", apart := false }
def FnExactContinuedOfSaid : Prop := fnExactContinuedOfRow.holds Try.pinned (OpenSpec.ofChange fnExactContinuedOfSpec)

/-- ITS FALSE NEIGHBOUR: 'it returns false'. Refute it at one input. -/
def fnExactContinuedOfWrong : ChangeSpec := { name := "fnExactContinuedOf", fn := fun _ => fun
  | [d] => { results := [.lit (.bool false)], args := [d] }
  | _ => none }
def FnExactContinuedOfWrongFalsely : Prop := fnExactContinuedOfRow.holds Try.pinned (OpenSpec.ofChange fnExactContinuedOfWrong)

/-- 'laws.FnExactPowerOf': WHATEVER THE INPUT: true; the input reads as it did. -/
def fnExactPowerOfSpec : ChangeSpec := { name := "fnExactPowerOf", fn := fun _ => fun
  | [d1, d2] => { results := [.lit (.bool true)], args := [d1, d2] }
  | _ => none }
def fnExactPowerOfRow : OpenClaim := { program := "ytmopjfjmmdnapaa", sum := "0626b717d2dd8ad492ee69e082390fee6e6f9aa3aa9ea8480446d1cbd260e875", func := "loop.example/g01380/laws.FnExactPowerOf", spec := "fnExactPowerOf", apart := false }
def FnExactPowerOfSaid : Prop := fnExactPowerOfRow.holds Try.pinned (OpenSpec.ofChange fnExactPowerOfSpec)

/-- ITS FALSE NEIGHBOUR: 'it returns false'. Refute it at one input. -/
def fnExactPowerOfWrong : ChangeSpec := { name := "fnExactPowerOf", fn := fun _ => fun
  | [d1, d2] => { results := [.lit (.bool false)], args := [d1, d2] }
  | _ => none }
def FnExactPowerOfWrongFalsely : Prop := fnExactPowerOfRow.holds Try.pinned (OpenSpec.ofChange fnExactPowerOfWrong)

/-- 'laws.FnExactRunsOf': WHATEVER THE INPUT: true; the input reads as it did. -/
def fnExactRunsOfSpec : ChangeSpec := { name := "fnExactRunsOf", fn := fun _ => fun
  | [d] => { results := [.lit (.bool true)], args := [d] }
  | _ => none }
def fnExactRunsOfRow : OpenClaim := { program := "ytmopjfjmmdnapaa", sum := "0626b717d2dd8ad492ee69e082390fee6e6f9aa3aa9ea8480446d1cbd260e875", func := "loop.example/g01380/laws.FnExactRunsOf", spec := "fnExactRunsOf", apart := false }
def FnExactRunsOfSaid : Prop := fnExactRunsOfRow.holds Try.pinned (OpenSpec.ofChange fnExactRunsOfSpec)

/-- ITS FALSE NEIGHBOUR: 'it returns false'. Refute it at one input. -/
def fnExactRunsOfWrong : ChangeSpec := { name := "fnExactRunsOf", fn := fun _ => fun
  | [d] => { results := [.lit (.bool false)], args := [d] }
  | _ => none }
def FnExactRunsOfWrongFalsely : Prop := fnExactRunsOfRow.holds Try.pinned (OpenSpec.ofChange fnExactRunsOfWrong)

/-- 'laws.FnExactMatrixOfChain': WHATEVER THE INPUT: true; the input reads as it did. -/
def fnExactMatrixOfChainSpec : ChangeSpec := { name := "fnExactMatrixOfChain", fn := fun _ => fun
  | [d1, d2] => { results := [.lit (.bool true)], args := [d1, d2] }
  | _ => none }
def fnExactMatrixOfChainRow : OpenClaim := { program := "ytmopjfjmmdnapaa", sum := "0626b717d2dd8ad492ee69e082390fee6e6f9aa3aa9ea8480446d1cbd260e875", func := "loop.example/g01380/laws.FnExactMatrixOfChain", spec := "fnExactMatrixOfChain", apart := false }
def FnExactMatrixOfChainSaid : Prop := fnExactMatrixOfChainRow.holds Try.pinned (OpenSpec.ofChange fnExactMatrixOfChainSpec)

/-- ITS FALSE NEIGHBOUR: 'it returns false'. Refute it at one input. -/
def fnExactMatrixOfChainWrong : ChangeSpec := { name := "fnExactMatrixOfChain", fn := fun _ => fun
  | [d1, d2] => { results := [.lit (.bool false)], args := [d1, d2] }
  | _ => none }
def FnExactMatrixOfChainWrongFalsely : Prop := fnExactMatrixOfChainRow.holds Try.pinned (OpenSpec.ofChange fnExactMatrixOfChainWrong)

/-- 'laws.FnExactMatrixOfFree': WHATEVER THE INPUT: true; the input reads as it did. -/
def fnExactMatrixOfFreeSpec : ChangeSpec := { name := "fnExactMatrixOfFree", fn := fun _ => fun
  | [d] => { results := [.lit (.bool true)], args := [d] }
  | _ => none }
def fnExactMatrixOfFreeRow : OpenClaim := { program := "ytmopjfjmmdnapaa", sum := "0626b717d2dd8ad492ee69e082390fee6e6f9aa3aa9ea8480446d1cbd260e875", func := "loop.example/g01380/laws.FnExactMatrixOfFree", spec := "fnExactMatrixOfFree", inPlace := ["internal/bytealg.IndexByteString"], apart := false }
def FnExactMatrixOfFreeSaid : Prop := fnExactMatrixOfFreeRow.holds Try.pinned (OpenSpec.ofChange fnExactMatrixOfFreeSpec)

/-- ITS FALSE NEIGHBOUR: 'it returns false'. Refute it at one input. -/
def fnExactMatrixOfFreeWrong : ChangeSpec := { name := "fnExactMatrixOfFree", fn := fun _ => fun
  | [d] => { results := [.lit (.bool false)], args := [d] }
  | _ => none }
def FnExactMatrixOfFreeWrongFalsely : Prop := fnExactMatrixOfFreeRow.holds Try.pinned (OpenSpec.ofChange fnExactMatrixOfFreeWrong)

/-- 'laws.FnExactPathOf': WHATEVER THE INPUT: true; the input reads as it did. -/
def fnExactPathOfSpec : ChangeSpec := { name := "fnExactPathOf", fn := fun _ => fun
  | [d] => { results := [.lit (.bool true)], args := [d] }
  | _ => none }
def fnExactPathOfRow : OpenClaim := { program := "ytmopjfjmmdnapaa", sum := "0626b717d2dd8ad492ee69e082390fee6e6f9aa3aa9ea8480446d1cbd260e875", func := "loop.example/g01380/laws.FnExactPathOf", spec := "fnExactPathOf", apart := false }
def FnExactPathOfSaid : Prop := fnExactPathOfRow.holds Try.pinned (OpenSpec.ofChange fnExactPathOfSpec)

/-- ITS FALSE NEIGHBOUR: 'it returns false'. Refute it at one input. -/
def fnExactPathOfWrong : ChangeSpec := { name := "fnExactPathOf", fn := fun _ => fun
  | [d] => { results := [.lit (.bool false)], args := [d] }
  | _ => none }
def FnExactPathOfWrongFalsely : Prop := fnExactPathOfRow.holds Try.pinned (OpenSpec.ofChange fnExactPathOfWrong)

/-- 'laws.FnExactMatrixOfWord': WHATEVER THE INPUT: true; the input reads as it did. -/
def fnExactMatrixOfWordSpec : ChangeSpec := { name := "fnExactMatrixOfWord", fn := fun _ => fun
  | [d] => { results := [.lit (.bool true)], args := [d] }
  | _ => none }
def fnExactMatrixOfWordRow : OpenClaim := { program := "ytmopjfjmmdnapaa", sum := "0626b717d2dd8ad492ee69e082390fee6e6f9aa3aa9ea8480446d1cbd260e875", func := "loop.example/g01380/laws.FnExactMatrixOfWord", spec := "fnExactMatrixOfWord", inPlace := ["internal/bytealg.IndexByteString"], apart := false }
def FnExactMatrixOfWordSaid : Prop := fnExactMatrixOfWordRow.holds Try.pinned (OpenSpec.ofChange fnExactMatrixOfWordSpec)

/-- ITS FALSE NEIGHBOUR: 'it returns false'. Refute it at one input. -/
def fnExactMatrixOfWordWrong : ChangeSpec := { name := "fnExactMatrixOfWord", fn := fun _ => fun
  | [d] => { results := [.lit (.bool false)], args := [d] }
  | _ => none }
def FnExactMatrixOfWordWrongFalsely : Prop := fnExactMatrixOfWordRow.holds Try.pinned (OpenSpec.ofChange fnExactMatrixOfWordWrong)

/-- 'laws.FnExactCommutatorOf': WHATEVER THE INPUT: true; the input reads as it did. -/
def fnExactCommutatorOfSpec : ChangeSpec := { name := "fnExactCommutatorOf", fn := fun _ => fun
  | [d1, d2] => { results := [.lit (.bool true)], args := [d1, d2] }
  | _ => none }
def fnExactCommutatorOfRow : OpenClaim := { program := "ytmopjfjmmdnapaa", sum := "0626b717d2dd8ad492ee69e082390fee6e6f9aa3aa9ea8480446d1cbd260e875", func := "loop.example/g01380/laws.FnExactCommutatorOf", spec := "fnExactCommutatorOf", apart := false }
def FnExactCommutatorOfSaid : Prop := fnExactCommutatorOfRow.holds Try.pinned (OpenSpec.ofChange fnExactCommutatorOfSpec)

/-- ITS FALSE NEIGHBOUR: 'it returns false'. Refute it at one input. -/
def fnExactCommutatorOfWrong : ChangeSpec := { name := "fnExactCommutatorOf", fn := fun _ => fun
  | [d1, d2] => { results := [.lit (.bool false)], args := [d1, d2] }
  | _ => none }
def FnExactCommutatorOfWrongFalsely : Prop := fnExactCommutatorOfRow.holds Try.pinned (OpenSpec.ofChange fnExactCommutatorOfWrong)

/-- 'laws.FnExactConjugateBy': WHATEVER THE INPUT: true; the input reads as it did. -/
def fnExactConjugateBySpec : ChangeSpec := { name := "fnExactConjugateBy", fn := fun _ => fun
  | [d1, d2] => { results := [.lit (.bool true)], args := [d1, d2] }
  | _ => none }
def fnExactConjugateByRow : OpenClaim := { program := "ytmopjfjmmdnapaa", sum := "0626b717d2dd8ad492ee69e082390fee6e6f9aa3aa9ea8480446d1cbd260e875", func := "loop.example/g01380/laws.FnExactConjugateBy", spec := "fnExactConjugateBy", apart := false }
def FnExactConjugateBySaid : Prop := fnExactConjugateByRow.holds Try.pinned (OpenSpec.ofChange fnExactConjugateBySpec)

/-- ITS FALSE NEIGHBOUR: 'it returns false'. Refute it at one input. -/
def fnExactConjugateByWrong : ChangeSpec := { name := "fnExactConjugateBy", fn := fun _ => fun
  | [d1, d2] => { results := [.lit (.bool false)], args := [d1, d2] }
  | _ => none }
def FnExactConjugateByWrongFalsely : Prop := fnExactConjugateByRow.holds Try.pinned (OpenSpec.ofChange fnExactConjugateByWrong)

/- THE SECOND FORM. 'bulk': how many values and letters a reading holds, each counted each time it is reached (what is shared counts as often as it is met; a slice's spare places count too). A statement '..UptoSaid' is the law's where the arguments, and the package variables that the reading takes, are together of bulk at most 1048576: NARROWER than '..Said'. Prove '..Said' where nothing that the law and all that it calls make is longer than what came in: it says more and counts as full. Else prove '..UptoSaid'. A law counts once. -/
mutual
def uptoBulk {H : Type} : DataW H → Nat
  | .lit (.string bytes) => bytes.length + 1
  | .lit _ => 1
  | .nil => 1
  | .ptr d => uptoBulk d + 1
  | .slice elems spare => uptoBulkAll elems + uptoBulkAll spare + 1
  | .agg parts => uptoBulkAll parts + 1
  | .iface _ d => uptoBulk d + 1
  | .map entries => uptoBulkEntries entries + 1
  | .held _ => 1
def uptoBulkAll {H : Type} : List (DataW H) → Nat
  | [] => 0
  | d :: r => uptoBulk d + uptoBulkAll r
def uptoBulkEntries {H : Type} : List (Lit × DataW H) → Nat
  | [] => 0
  | x :: r => uptoBulkEntry x + uptoBulkEntries r
def uptoBulkEntry {H : Type} : Lit × DataW H → Nat
  | (.string bytes, d) => bytes.length + uptoBulk d + 1
  | (_, d) => uptoBulk d + 1
 end
def uptoSmall : (H : Type) → List (DataW H) → Bool := fun _ ds => decide (uptoBulkAll ds ≤ 1048576)
def OpenSpec.upto (s : _root_.Go.ChangeSpec) : _root_.Go.OpenSpec := { _root_.Go.OpenSpec.ofChange s with cond := some uptoSmall }

/-- 'laws.FnExactChainOf', WHERE WHAT IT READS IS OF BULK AT MOST 1048576: true; the input reads as it did. -/
def fnExactChainOfUptoRow : OpenClaim := { program := "ytmopjfjmmdnapaa", sum := "0626b717d2dd8ad492ee69e082390fee6e6f9aa3aa9ea8480446d1cbd260e875", func := "loop.example/g01380/laws.FnExactChainOf", spec := "fnExactChainOf", apart := false, narrowed := true }
def FnExactChainOfUptoSaid : Prop := fnExactChainOfUptoRow.holds Try.pinned (OpenSpec.upto fnExactChainOfSpec)

/-- 'laws.FnExactFractionOfContinued', WHERE WHAT IT READS IS OF BULK AT MOST 1048576: true; the input reads as it did. -/
def fnExactFractionOfContinuedUptoRow : OpenClaim := { program := "ytmopjfjmmdnapaa", sum := "0626b717d2dd8ad492ee69e082390fee6e6f9aa3aa9ea8480446d1cbd260e875", func := "loop.example/g01380/laws.FnExactFractionOfContinued", spec := "fnExactFractionOfContinued", apart := false, narrowed := true }
def FnExactFractionOfContinuedUptoSaid : Prop := fnExactFractionOfContinuedUptoRow.holds Try.pinned (OpenSpec.upto fnExactFractionOfContinuedSpec)

/-- 'laws.FnExactMatrixOfRuns', WHERE WHAT IT READS IS OF BULK AT MOST 1048576: true; the input reads as it did. -/
def fnExactMatrixOfRunsUptoRow : OpenClaim := { program := "ytmopjfjmmdnapaa", sum := "0626b717d2dd8ad492ee69e082390fee6e6f9aa3aa9ea8480446d1cbd260e875", func := "loop.example/g01380/laws.FnExactMatrixOfRuns", spec := "fnExactMatrixOfRuns", apart := false, narrowed := true }
def FnExactMatrixOfRunsUptoSaid : Prop := fnExactMatrixOfRunsUptoRow.holds Try.pinned (OpenSpec.upto fnExactMatrixOfRunsSpec)

/-- 'laws.FnExactContinuedOf', WHERE WHAT IT READS IS OF BULK AT MOST 1048576: true; the input reads as it did. -/
def fnExactContinuedOfUptoRow : OpenClaim := { program := "ytmopjfjmmdnapaa", sum := "0626b717d2dd8ad492ee69e082390fee6e6f9aa3aa9ea8480446d1cbd260e875", func := "loop.example/g01380/laws.FnExactContinuedOf", spec := "fnExactContinuedOf", apart := false, narrowed := true }
def FnExactContinuedOfUptoSaid : Prop := fnExactContinuedOfUptoRow.holds Try.pinned (OpenSpec.upto fnExactContinuedOfSpec)

/-- 'laws.FnExactPowerOf', WHERE WHAT IT READS IS OF BULK AT MOST 1048576: true; the input reads as it did. -/
def fnExactPowerOfUptoRow : OpenClaim := { program := "ytmopjfjmmdnapaa", sum := "0626b717d2dd8ad492ee69e082390fee6e6f9aa3aa9ea8480446d1cbd260e875", func := "loop.example/g01380/laws.FnExactPowerOf", spec := "fnExactPowerOf", apart := false, narrowed := true }
def FnExactPowerOfUptoSaid : Prop := fnExactPowerOfUptoRow.holds Try.pinned (OpenSpec.upto fnExactPowerOfSpec)

/-- 'laws.FnExactRunsOf', WHERE WHAT IT READS IS OF BULK AT MOST 1048576: true; the input reads as it did. -/
def fnExactRunsOfUptoRow : OpenClaim := { program := "ytmopjfjmmdnapaa", sum := "0626b717d2dd8ad492ee69e082390fee6e6f9aa3aa9ea8480446d1cbd260e875", func := "loop.example/g01380/laws.FnExactRunsOf", spec := "fnExactRunsOf", apart := false, narrowed := true }
def FnExactRunsOfUptoSaid : Prop := fnExactRunsOfUptoRow.holds Try.pinned (OpenSpec.upto fnExactRunsOfSpec)

/-- 'laws.FnExactMatrixOfChain', WHERE WHAT IT READS IS OF BULK AT MOST 1048576: true; the input reads as it did. -/
def fnExactMatrixOfChainUptoRow : OpenClaim := { program := "ytmopjfjmmdnapaa", sum := "0626b717d2dd8ad492ee69e082390fee6e6f9aa3aa9ea8480446d1cbd260e875", func := "loop.example/g01380/laws.FnExactMatrixOfChain", spec := "fnExactMatrixOfChain", apart := false, narrowed := true }
def FnExactMatrixOfChainUptoSaid : Prop := fnExactMatrixOfChainUptoRow.holds Try.pinned (OpenSpec.upto fnExactMatrixOfChainSpec)

/-- 'laws.FnExactMatrixOfFree', WHERE WHAT IT READS IS OF BULK AT MOST 1048576: true; the input reads as it did. -/
def fnExactMatrixOfFreeUptoRow : OpenClaim := { program := "ytmopjfjmmdnapaa", sum := "0626b717d2dd8ad492ee69e082390fee6e6f9aa3aa9ea8480446d1cbd260e875", func := "loop.example/g01380/laws.FnExactMatrixOfFree", spec := "fnExactMatrixOfFree", inPlace := ["internal/bytealg.IndexByteString"], apart := false, narrowed := true }
def FnExactMatrixOfFreeUptoSaid : Prop := fnExactMatrixOfFreeUptoRow.holds Try.pinned (OpenSpec.upto fnExactMatrixOfFreeSpec)

/-- 'laws.FnExactPathOf', WHERE WHAT IT READS IS OF BULK AT MOST 1048576: true; the input reads as it did. -/
def fnExactPathOfUptoRow : OpenClaim := { program := "ytmopjfjmmdnapaa", sum := "0626b717d2dd8ad492ee69e082390fee6e6f9aa3aa9ea8480446d1cbd260e875", func := "loop.example/g01380/laws.FnExactPathOf", spec := "fnExactPathOf", apart := false, narrowed := true }
def FnExactPathOfUptoSaid : Prop := fnExactPathOfUptoRow.holds Try.pinned (OpenSpec.upto fnExactPathOfSpec)

/-- 'laws.FnExactMatrixOfWord', WHERE WHAT IT READS IS OF BULK AT MOST 1048576: true; the input reads as it did. -/
def fnExactMatrixOfWordUptoRow : OpenClaim := { program := "ytmopjfjmmdnapaa", sum := "0626b717d2dd8ad492ee69e082390fee6e6f9aa3aa9ea8480446d1cbd260e875", func := "loop.example/g01380/laws.FnExactMatrixOfWord", spec := "fnExactMatrixOfWord", inPlace := ["internal/bytealg.IndexByteString"], apart := false, narrowed := true }
def FnExactMatrixOfWordUptoSaid : Prop := fnExactMatrixOfWordUptoRow.holds Try.pinned (OpenSpec.upto fnExactMatrixOfWordSpec)

/-- 'laws.FnExactCommutatorOf', WHERE WHAT IT READS IS OF BULK AT MOST 1048576: true; the input reads as it did. -/
def fnExactCommutatorOfUptoRow : OpenClaim := { program := "ytmopjfjmmdnapaa", sum := "0626b717d2dd8ad492ee69e082390fee6e6f9aa3aa9ea8480446d1cbd260e875", func := "loop.example/g01380/laws.FnExactCommutatorOf", spec := "fnExactCommutatorOf", apart := false, narrowed := true }
def FnExactCommutatorOfUptoSaid : Prop := fnExactCommutatorOfUptoRow.holds Try.pinned (OpenSpec.upto fnExactCommutatorOfSpec)

/-- 'laws.FnExactConjugateBy', WHERE WHAT IT READS IS OF BULK AT MOST 1048576: true; the input reads as it did. -/
def fnExactConjugateByUptoRow : OpenClaim := { program := "ytmopjfjmmdnapaa", sum := "0626b717d2dd8ad492ee69e082390fee6e6f9aa3aa9ea8480446d1cbd260e875", func := "loop.example/g01380/laws.FnExactConjugateBy", spec := "fnExactConjugateBy", apart := false, narrowed := true }
def FnExactConjugateByUptoSaid : Prop := fnExactConjugateByUptoRow.holds Try.pinned (OpenSpec.upto fnExactConjugateBySpec)

end Rows
end Go.Proofs.Ytmopjfjmmdnapaa
