/-
  No cell of these rows narrows 'for every input' (looked for: loops, veiled, ifaces, maps, wideKeys, modest, calm, conditions, laid).
  DERIVED. THE GIVEN ROWS OF THIS SEAT. 7 by the template 'for every input the law returns true; each argument reads behind the call as it read before'; 0 by the template 'total and deterministic' (their statements: YtgchbjlkbfdbdaaTotals.lean).
  GIVEN WITH THE SEED: the statements are not yours to turn. If you find one false, say at which input.
  Laid BY PROGRAM, IN A SANDBOX (cutbox-rows.mjs): the forced cells as the released guide's own fill.sh prints them over the translation 606b47f96512de8a… (all of the seat's roots in one cut). By AI agents, Wed Nov 11 2026. No macro, syntax, notation, axiom, sorry.
-/
import Derived.Test.YtgchbjlkbfdbdaaChecked
import GoSem.Claim
import GoSem.ClaimJoined
import GoSem.ClaimMapViews
import Derived.JoinedTies
import Derived.KernelRfl
namespace Go.Proofs.Ytgchbjlkbfdbdaa
/- THE CELL 'sum', in the pinned program and in every row, IS THE sha256 OF THE DUMP (.gsa) THAT YtgchbjlkbfdbdaaProg.lean LOADS. Nothing in Lean hashes anything: it is a label: what it is worth is what the hold of that sum in a sandbox is worth. -/
noncomputable def Try.pinned : Pinned := { name := "ytgchbjlkbfdbdaa", sum := "606b47f96512de8acbbe5f512ce6a0a2d1b8d37339c2677fa5e30bc812ac8344", checked := Try.checked }
namespace Rows
def none {H : Type} : Left H := { results := [], args := [] }

/-- 'laws.FnExactMatricesWithin': WHATEVER THE INPUT: true; the input reads as it did. -/
def fnExactMatricesWithinSpec : ChangeSpec := { name := "fnExactMatricesWithin", fn := fun _ => fun
  | [d] => { results := [.lit (.bool true)], args := [d] }
  | _ => none }
def fnExactMatricesWithinRow : OpenClaim := { program := "ytgchbjlkbfdbdaa", sum := "606b47f96512de8acbbe5f512ce6a0a2d1b8d37339c2677fa5e30bc812ac8344", func := "loop.example/g01380/laws.FnExactMatricesWithin", spec := "fnExactMatricesWithin", apart := false }
def FnExactMatricesWithinSaid : Prop := fnExactMatricesWithinRow.holds Try.pinned (OpenSpec.ofChange fnExactMatricesWithinSpec)

/-- ITS FALSE NEIGHBOUR: 'it returns false'. Refute it at one input. -/
def fnExactMatricesWithinWrong : ChangeSpec := { name := "fnExactMatricesWithin", fn := fun _ => fun
  | [d] => { results := [.lit (.bool false)], args := [d] }
  | _ => none }
def FnExactMatricesWithinWrongFalsely : Prop := fnExactMatricesWithinRow.holds Try.pinned (OpenSpec.ofChange fnExactMatricesWithinWrong)

/-- 'laws.FnExactFareyRow': WHATEVER THE INPUT: true; the input reads as it did. -/
def fnExactFareyRowSpec : ChangeSpec := { name := "fnExactFareyRow", fn := fun _ => fun
  | [d] => { results := [.lit (.bool true)], args := [d] }
  | _ => none }
def fnExactFareyRowRow : OpenClaim := { program := "ytgchbjlkbfdbdaa", sum := "606b47f96512de8acbbe5f512ce6a0a2d1b8d37339c2677fa5e30bc812ac8344", func := "loop.example/g01380/laws.FnExactFareyRow", spec := "fnExactFareyRow", apart := false }
def FnExactFareyRowSaid : Prop := fnExactFareyRowRow.holds Try.pinned (OpenSpec.ofChange fnExactFareyRowSpec)

/-- ITS FALSE NEIGHBOUR: 'it returns false'. Refute it at one input. -/
def fnExactFareyRowWrong : ChangeSpec := { name := "fnExactFareyRow", fn := fun _ => fun
  | [d] => { results := [.lit (.bool false)], args := [d] }
  | _ => none }
def FnExactFareyRowWrongFalsely : Prop := fnExactFareyRowRow.holds Try.pinned (OpenSpec.ofChange fnExactFareyRowWrong)

/-- 'laws.FnExactParentsOf': WHATEVER THE INPUT: true; the input reads as it did. -/
def fnExactParentsOfSpec : ChangeSpec := { name := "fnExactParentsOf", fn := fun _ => fun
  | [d] => { results := [.lit (.bool true)], args := [d] }
  | _ => none }
def fnExactParentsOfRow : OpenClaim := { program := "ytgchbjlkbfdbdaa", sum := "606b47f96512de8acbbe5f512ce6a0a2d1b8d37339c2677fa5e30bc812ac8344", func := "loop.example/g01380/laws.FnExactParentsOf", spec := "fnExactParentsOf", apart := false }
def FnExactParentsOfSaid : Prop := fnExactParentsOfRow.holds Try.pinned (OpenSpec.ofChange fnExactParentsOfSpec)

/-- ITS FALSE NEIGHBOUR: 'it returns false'. Refute it at one input. -/
def fnExactParentsOfWrong : ChangeSpec := { name := "fnExactParentsOf", fn := fun _ => fun
  | [d] => { results := [.lit (.bool false)], args := [d] }
  | _ => none }
def FnExactParentsOfWrongFalsely : Prop := fnExactParentsOfRow.holds Try.pinned (OpenSpec.ofChange fnExactParentsOfWrong)

/-- 'laws.FnExactConvergentsOf': WHATEVER THE INPUT: true; the input reads as it did. -/
def fnExactConvergentsOfSpec : ChangeSpec := { name := "fnExactConvergentsOf", fn := fun _ => fun
  | [d] => { results := [.lit (.bool true)], args := [d] }
  | _ => none }
def fnExactConvergentsOfRow : OpenClaim := { program := "ytgchbjlkbfdbdaa", sum := "606b47f96512de8acbbe5f512ce6a0a2d1b8d37339c2677fa5e30bc812ac8344", func := "loop.example/g01380/laws.FnExactConvergentsOf", spec := "fnExactConvergentsOf", apart := false }
def FnExactConvergentsOfSaid : Prop := fnExactConvergentsOfRow.holds Try.pinned (OpenSpec.ofChange fnExactConvergentsOfSpec)

/-- ITS FALSE NEIGHBOUR: 'it returns false'. Refute it at one input. -/
def fnExactConvergentsOfWrong : ChangeSpec := { name := "fnExactConvergentsOf", fn := fun _ => fun
  | [d] => { results := [.lit (.bool false)], args := [d] }
  | _ => none }
def FnExactConvergentsOfWrongFalsely : Prop := fnExactConvergentsOfRow.holds Try.pinned (OpenSpec.ofChange fnExactConvergentsOfWrong)

/-- 'laws.FnExactDistanceOf': WHATEVER THE INPUT: true; the input reads as it did. -/
def fnExactDistanceOfSpec : ChangeSpec := { name := "fnExactDistanceOf", fn := fun _ => fun
  | [d1, d2] => { results := [.lit (.bool true)], args := [d1, d2] }
  | _ => none }
def fnExactDistanceOfRow : OpenClaim := { program := "ytgchbjlkbfdbdaa", sum := "606b47f96512de8acbbe5f512ce6a0a2d1b8d37339c2677fa5e30bc812ac8344", func := "loop.example/g01380/laws.FnExactDistanceOf", spec := "fnExactDistanceOf", apart := false }
def FnExactDistanceOfSaid : Prop := fnExactDistanceOfRow.holds Try.pinned (OpenSpec.ofChange fnExactDistanceOfSpec)

/-- ITS FALSE NEIGHBOUR: 'it returns false'. Refute it at one input. -/
def fnExactDistanceOfWrong : ChangeSpec := { name := "fnExactDistanceOf", fn := fun _ => fun
  | [d1, d2] => { results := [.lit (.bool false)], args := [d1, d2] }
  | _ => none }
def FnExactDistanceOfWrongFalsely : Prop := fnExactDistanceOfRow.holds Try.pinned (OpenSpec.ofChange fnExactDistanceOfWrong)

/-- 'laws.FnExactPositiveWord': WHATEVER THE INPUT: true; the input reads as it did. -/
def fnExactPositiveWordSpec : ChangeSpec := { name := "fnExactPositiveWord", fn := fun _ => fun
  | [d] => { results := [.lit (.bool true)], args := [d] }
  | _ => none }
def fnExactPositiveWordRow : OpenClaim := { program := "ytgchbjlkbfdbdaa", sum := "606b47f96512de8acbbe5f512ce6a0a2d1b8d37339c2677fa5e30bc812ac8344", func := "loop.example/g01380/laws.FnExactPositiveWord", spec := "fnExactPositiveWord", inPlace := ["internal/abi.NoEscape", "internal/bytealg.MakeNoZero"], apart := false }
def FnExactPositiveWordSaid : Prop := fnExactPositiveWordRow.holds Try.pinned (OpenSpec.ofChange fnExactPositiveWordSpec)

/-- ITS FALSE NEIGHBOUR: 'it returns false'. Refute it at one input. -/
def fnExactPositiveWordWrong : ChangeSpec := { name := "fnExactPositiveWord", fn := fun _ => fun
  | [d] => { results := [.lit (.bool false)], args := [d] }
  | _ => none }
def FnExactPositiveWordWrongFalsely : Prop := fnExactPositiveWordRow.holds Try.pinned (OpenSpec.ofChange fnExactPositiveWordWrong)

/-- 'laws.FnExactTierOf': WHATEVER THE INPUT: true; the input reads as it did. -/
def fnExactTierOfSpec : ChangeSpec := { name := "fnExactTierOf", fn := fun _ => fun
  | [d] => { results := [.lit (.bool true)], args := [d] }
  | _ => none }
def fnExactTierOfRow : OpenClaim := { program := "ytgchbjlkbfdbdaa", sum := "606b47f96512de8acbbe5f512ce6a0a2d1b8d37339c2677fa5e30bc812ac8344", func := "loop.example/g01380/laws.FnExactTierOf", spec := "fnExactTierOf", unfollowed := true, recurses := true, apart := false }
def FnExactTierOfSaid : Prop := fnExactTierOfRow.holds Try.pinned (OpenSpec.ofChange fnExactTierOfSpec)

/-- ITS FALSE NEIGHBOUR: 'it returns false'. Refute it at one input. -/
def fnExactTierOfWrong : ChangeSpec := { name := "fnExactTierOf", fn := fun _ => fun
  | [d] => { results := [.lit (.bool false)], args := [d] }
  | _ => none }
def FnExactTierOfWrongFalsely : Prop := fnExactTierOfRow.holds Try.pinned (OpenSpec.ofChange fnExactTierOfWrong)

/- THE SECOND FORM. 'bulk': how many values and letters a reading holds, each counted each time it is reached (what is shared counts as often as it is met; a slice's spare places count too). A statement '..UptoSaid' is the law's where the arguments, and the package variables that the reading takes, are together of bulk at most 1048576: NARROWER than '..Said'. Prove '..Said' where nothing that the law and all that it calls make is longer than what came in: it says more and counts as full. Else prove '..UptoSaid'. A law counts once. -/
mutual
def uptoBulk {H : Type} : DataW H → Nat
  | .lit (.string bytes) => bytes.length + 1
  | .lit _ => 1
  | .nil => 1
  | .ptr d => uptoBulk d + 1
  | .slice elems spare => uptoBulkAll elems + uptoBulkAll spare + 1
  | .agg parts => uptoBulkAll parts + 1
  | .iface _ d => uptoBulk d + 1
  | .map entries => uptoBulkEntries entries + 1
  | .held _ => 1
def uptoBulkAll {H : Type} : List (DataW H) → Nat
  | [] => 0
  | d :: r => uptoBulk d + uptoBulkAll r
def uptoBulkEntries {H : Type} : List (Lit × DataW H) → Nat
  | [] => 0
  | x :: r => uptoBulkEntry x + uptoBulkEntries r
def uptoBulkEntry {H : Type} : Lit × DataW H → Nat
  | (.string bytes, d) => bytes.length + uptoBulk d + 1
  | (_, d) => uptoBulk d + 1
 end
def uptoSmall : (H : Type) → List (DataW H) → Bool := fun _ ds => decide (uptoBulkAll ds ≤ 1048576)
def OpenSpec.upto (s : _root_.Go.ChangeSpec) : _root_.Go.OpenSpec := { _root_.Go.OpenSpec.ofChange s with cond := some uptoSmall }

/-- 'laws.FnExactMatricesWithin', WHERE WHAT IT READS IS OF BULK AT MOST 1048576: true; the input reads as it did. -/
def fnExactMatricesWithinUptoRow : OpenClaim := { program := "ytgchbjlkbfdbdaa", sum := "606b47f96512de8acbbe5f512ce6a0a2d1b8d37339c2677fa5e30bc812ac8344", func := "loop.example/g01380/laws.FnExactMatricesWithin", spec := "fnExactMatricesWithin", apart := false, narrowed := true }
def FnExactMatricesWithinUptoSaid : Prop := fnExactMatricesWithinUptoRow.holds Try.pinned (OpenSpec.upto fnExactMatricesWithinSpec)

/-- 'laws.FnExactFareyRow', WHERE WHAT IT READS IS OF BULK AT MOST 1048576: true; the input reads as it did. -/
def fnExactFareyRowUptoRow : OpenClaim := { program := "ytgchbjlkbfdbdaa", sum := "606b47f96512de8acbbe5f512ce6a0a2d1b8d37339c2677fa5e30bc812ac8344", func := "loop.example/g01380/laws.FnExactFareyRow", spec := "fnExactFareyRow", apart := false, narrowed := true }
def FnExactFareyRowUptoSaid : Prop := fnExactFareyRowUptoRow.holds Try.pinned (OpenSpec.upto fnExactFareyRowSpec)

/-- 'laws.FnExactParentsOf', WHERE WHAT IT READS IS OF BULK AT MOST 1048576: true; the input reads as it did. -/
def fnExactParentsOfUptoRow : OpenClaim := { program := "ytgchbjlkbfdbdaa", sum := "606b47f96512de8acbbe5f512ce6a0a2d1b8d37339c2677fa5e30bc812ac8344", func := "loop.example/g01380/laws.FnExactParentsOf", spec := "fnExactParentsOf", apart := false, narrowed := true }
def FnExactParentsOfUptoSaid : Prop := fnExactParentsOfUptoRow.holds Try.pinned (OpenSpec.upto fnExactParentsOfSpec)

/-- 'laws.FnExactConvergentsOf', WHERE WHAT IT READS IS OF BULK AT MOST 1048576: true; the input reads as it did. -/
def fnExactConvergentsOfUptoRow : OpenClaim := { program := "ytgchbjlkbfdbdaa", sum := "606b47f96512de8acbbe5f512ce6a0a2d1b8d37339c2677fa5e30bc812ac8344", func := "loop.example/g01380/laws.FnExactConvergentsOf", spec := "fnExactConvergentsOf", apart := false, narrowed := true }
def FnExactConvergentsOfUptoSaid : Prop := fnExactConvergentsOfUptoRow.holds Try.pinned (OpenSpec.upto fnExactConvergentsOfSpec)

/-- 'laws.FnExactDistanceOf', WHERE WHAT IT READS IS OF BULK AT MOST 1048576: true; the input reads as it did. -/
def fnExactDistanceOfUptoRow : OpenClaim := { program := "ytgchbjlkbfdbdaa", sum := "606b47f96512de8acbbe5f512ce6a0a2d1b8d37339c2677fa5e30bc812ac8344", func := "loop.example/g01380/laws.FnExactDistanceOf", spec := "fnExactDistanceOf", apart := false, narrowed := true }
def FnExactDistanceOfUptoSaid : Prop := fnExactDistanceOfUptoRow.holds Try.pinned (OpenSpec.upto fnExactDistanceOfSpec)

/-- 'laws.FnExactPositiveWord', WHERE WHAT IT READS IS OF BULK AT MOST 1048576: true; the input reads as it did. -/
def fnExactPositiveWordUptoRow : OpenClaim := { program := "ytgchbjlkbfdbdaa", sum := "606b47f96512de8acbbe5f512ce6a0a2d1b8d37339c2677fa5e30bc812ac8344", func := "loop.example/g01380/laws.FnExactPositiveWord", spec := "fnExactPositiveWord", inPlace := ["internal/abi.NoEscape", "internal/bytealg.MakeNoZero"], apart := false, narrowed := true }
def FnExactPositiveWordUptoSaid : Prop := fnExactPositiveWordUptoRow.holds Try.pinned (OpenSpec.upto fnExactPositiveWordSpec)

/-- 'laws.FnExactTierOf', WHERE WHAT IT READS IS OF BULK AT MOST 1048576: true; the input reads as it did. -/
def fnExactTierOfUptoRow : OpenClaim := { program := "ytgchbjlkbfdbdaa", sum := "606b47f96512de8acbbe5f512ce6a0a2d1b8d37339c2677fa5e30bc812ac8344", func := "loop.example/g01380/laws.FnExactTierOf", spec := "fnExactTierOf", unfollowed := true, recurses := true, apart := false, narrowed := true }
def FnExactTierOfUptoSaid : Prop := fnExactTierOfUptoRow.holds Try.pinned (OpenSpec.upto fnExactTierOfSpec)

end Rows
end Go.Proofs.Ytgchbjlkbfdbdaa
