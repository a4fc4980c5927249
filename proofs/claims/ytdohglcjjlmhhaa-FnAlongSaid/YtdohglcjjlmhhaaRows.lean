/-
  No cell of these rows narrows 'for every input' (looked for: loops, veiled, ifaces, maps, wideKeys, modest, calm, conditions, laid).
  DERIVED. THE GIVEN ROWS OF THIS SEAT. 5 by the template 'for every input the law returns true; each argument reads behind the call as it read before'; 0 by the template 'total and deterministic' (their statements: YtdohglcjjlmhhaaTotals.lean).
  GIVEN WITH THE SEED: the statements are not yours to turn. If you find one false, say at which input.
  Laid BY PROGRAM, IN A SANDBOX (cutbox-rows.mjs): the forced cells as the released guide's own fill.sh prints them over the translation 23c0e2864c3bebe7… (all of the seat's roots in one cut). By AI agents, Wed Nov 11 2026. No macro, syntax, notation, axiom, sorry.
-/
import Derived.Test.YtdohglcjjlmhhaaChecked
import GoSem.Claim
import GoSem.ClaimJoined
import GoSem.ClaimMapViews
import Derived.JoinedTies
import Derived.KernelRfl
namespace Go.Proofs.Ytdohglcjjlmhhaa
/- THE CELL 'sum', in the pinned program and in every row, IS THE sha256 OF THE DUMP (.gsa) THAT YtdohglcjjlmhhaaProg.lean LOADS. Nothing in Lean hashes anything: it is a label: what it is worth is what the hold of that sum in a sandbox is worth. -/
noncomputable def Try.pinned : Pinned := { name := "ytdohglcjjlmhhaa", sum := "23c0e2864c3bebe7d99aed426a02d312eb6fe18a5fddfe30f3ffcf89a304eef1", checked := Try.checked }
namespace Rows
def none {H : Type} : Left H := { results := [], args := [] }

/-- 'laws.FnLines': WHATEVER THE INPUT: true; the input reads as it did. -/
def fnLinesSpec : ChangeSpec := { name := "fnLines", fn := fun _ => fun
  | [d] => { results := [.lit (.bool true)], args := [d] }
  | _ => none }
def fnLinesRow : OpenClaim := { program := "ytdohglcjjlmhhaa", sum := "23c0e2864c3bebe7d99aed426a02d312eb6fe18a5fddfe30f3ffcf89a304eef1", func := "loop.example/g00972/laws.FnLines", spec := "fnLines", apart := false }
def FnLinesSaid : Prop := fnLinesRow.holds Try.pinned (OpenSpec.ofChange fnLinesSpec)

/-- ITS FALSE NEIGHBOUR: 'it returns false'. Refute it at one input. -/
def fnLinesWrong : ChangeSpec := { name := "fnLines", fn := fun _ => fun
  | [d] => { results := [.lit (.bool false)], args := [d] }
  | _ => none }
def FnLinesWrongFalsely : Prop := fnLinesRow.holds Try.pinned (OpenSpec.ofChange fnLinesWrong)

/-- 'laws.FnFlexed': WHATEVER THE INPUT: true; the input reads as it did. -/
def fnFlexedSpec : ChangeSpec := { name := "fnFlexed", fn := fun _ => fun
  | [d] => { results := [.lit (.bool true)], args := [d] }
  | _ => none }
def fnFlexedRow : OpenClaim := { program := "ytdohglcjjlmhhaa", sum := "23c0e2864c3bebe7d99aed426a02d312eb6fe18a5fddfe30f3ffcf89a304eef1", func := "loop.example/g00972/laws.FnFlexed", spec := "fnFlexed", apart := false }
def FnFlexedSaid : Prop := fnFlexedRow.holds Try.pinned (OpenSpec.ofChange fnFlexedSpec)

/-- ITS FALSE NEIGHBOUR: 'it returns false'. Refute it at one input. -/
def fnFlexedWrong : ChangeSpec := { name := "fnFlexed", fn := fun _ => fun
  | [d] => { results := [.lit (.bool false)], args := [d] }
  | _ => none }
def FnFlexedWrongFalsely : Prop := fnFlexedRow.holds Try.pinned (OpenSpec.ofChange fnFlexedWrong)

/-- 'laws.FnLineSizes': WHATEVER THE INPUT: true; the input reads as it did. -/
def fnLineSizesSpec : ChangeSpec := { name := "fnLineSizes", fn := fun _ => fun
  | [d] => { results := [.lit (.bool true)], args := [d] }
  | _ => none }
def fnLineSizesRow : OpenClaim := { program := "ytdohglcjjlmhhaa", sum := "23c0e2864c3bebe7d99aed426a02d312eb6fe18a5fddfe30f3ffcf89a304eef1", func := "loop.example/g00972/laws.FnLineSizes", spec := "fnLineSizes", apart := false }
def FnLineSizesSaid : Prop := fnLineSizesRow.holds Try.pinned (OpenSpec.ofChange fnLineSizesSpec)

/-- ITS FALSE NEIGHBOUR: 'it returns false'. Refute it at one input. -/
def fnLineSizesWrong : ChangeSpec := { name := "fnLineSizes", fn := fun _ => fun
  | [d] => { results := [.lit (.bool false)], args := [d] }
  | _ => none }
def FnLineSizesWrongFalsely : Prop := fnLineSizesRow.holds Try.pinned (OpenSpec.ofChange fnLineSizesWrong)

/-- 'laws.FnAlong': WHATEVER THE INPUT: true; the input reads as it did. -/
def fnAlongSpec : ChangeSpec := { name := "fnAlong", fn := fun _ => fun
  | [d] => { results := [.lit (.bool true)], args := [d] }
  | _ => none }
def fnAlongRow : OpenClaim := { program := "ytdohglcjjlmhhaa", sum := "23c0e2864c3bebe7d99aed426a02d312eb6fe18a5fddfe30f3ffcf89a304eef1", func := "loop.example/g00972/laws.FnAlong", spec := "fnAlong", unfollowed := true, recurses := true, apart := false }
def FnAlongSaid : Prop := fnAlongRow.holds Try.pinned (OpenSpec.ofChange fnAlongSpec)

/-- ITS FALSE NEIGHBOUR: 'it returns false'. Refute it at one input. -/
def fnAlongWrong : ChangeSpec := { name := "fnAlong", fn := fun _ => fun
  | [d] => { results := [.lit (.bool false)], args := [d] }
  | _ => none }
def FnAlongWrongFalsely : Prop := fnAlongRow.holds Try.pinned (OpenSpec.ofChange fnAlongWrong)

/-- 'laws.FnExactBare': WHATEVER THE INPUT: true; the input reads as it did. -/
def fnExactBareSpec : ChangeSpec := { name := "fnExactBare", fn := fun _ => fun
  | [d] => { results := [.lit (.bool true)], args := [d] }
  | _ => none }
def fnExactBareRow : OpenClaim := { program := "ytdohglcjjlmhhaa", sum := "23c0e2864c3bebe7d99aed426a02d312eb6fe18a5fddfe30f3ffcf89a304eef1", func := "loop.example/g00972/laws.FnExactBare", spec := "fnExactBare", apart := false }
def FnExactBareSaid : Prop := fnExactBareRow.holds Try.pinned (OpenSpec.ofChange fnExactBareSpec)

/-- ITS FALSE NEIGHBOUR: 'it returns false'. Refute it at one input. -/
def fnExactBareWrong : ChangeSpec := { name := "fnExactBare", fn := fun _ => fun
  | [d] => { results := [.lit (.bool false)], args := [d] }
  | _ => none }
def FnExactBareWrongFalsely : Prop := fnExactBareRow.holds Try.pinned (OpenSpec.ofChange fnExactBareWrong)

/- THE SECOND FORM. 'bulk': how many values and letters a reading holds, each counted each time it is reached (what is shared counts as often as it is met; a slice's spare places count too). A statement '..UptoSaid' is the law's where the arguments, and the package variables that the reading takes, are together of bulk at most 1048576: NARROWER than '..Said'. Prove '..Said' where nothing that the law and all that it calls make is longer than what came in: it says more and counts as full. Else prove '..UptoSaid'. A law counts once. -/
mutual
def uptoBulk {H : Type} : DataW H → Nat
  | .lit (.string bytes) => bytes.length + 1
  | .lit _ => 1
  | .nil => 1
  | .ptr d => uptoBulk d + 1
  | .slice elems spare => uptoBulkAll elems + uptoBulkAll spare + 1
  | .agg parts => uptoBulkAll parts + 1
  | .iface _ d => uptoBulk d + 1
  | .map entries => uptoBulkEntries entries + 1
  | .held _ => 1
def uptoBulkAll {H : Type} : List (DataW H) → Nat
  | [] => 0
  | d :: r => uptoBulk d + uptoBulkAll r
def uptoBulkEntries {H : Type} : List (Lit × DataW H) → Nat
  | [] => 0
  | x :: r => uptoBulkEntry x + uptoBulkEntries r
def uptoBulkEntry {H : Type} : Lit × DataW H → Nat
  | (.string bytes, d) => bytes.length + uptoBulk d + 1
  | (_, d) => uptoBulk d + 1
 end
def uptoSmall : (H : Type) → List (DataW H) → Bool := fun _ ds => decide (uptoBulkAll ds ≤ 1048576)
def OpenSpec.upto (s : _root_.Go.ChangeSpec) : _root_.Go.OpenSpec := { _root_.Go.OpenSpec.ofChange s with cond := some uptoSmall }

/-- 'laws.FnLines', WHERE WHAT IT READS IS OF BULK AT MOST 1048576: true; the input reads as it did. -/
def fnLinesUptoRow : OpenClaim := { program := "ytdohglcjjlmhhaa", sum := "23c0e2864c3bebe7d99aed426a02d312eb6fe18a5fddfe30f3ffcf89a304eef1", func := "loop.example/g00972/laws.FnLines", spec := "fnLines", apart := false, narrowed := true }
def FnLinesUptoSaid : Prop := fnLinesUptoRow.holds Try.pinned (OpenSpec.upto fnLinesSpec)

/-- 'laws.FnFlexed', WHERE WHAT IT READS IS OF BULK AT MOST 1048576: true; the input reads as it did. -/
def fnFlexedUptoRow : OpenClaim := { program := "ytdohglcjjlmhhaa", sum := "23c0e2864c3bebe7d99aed426a02d312eb6fe18a5fddfe30f3ffcf89a304eef1", func := "loop.example/g00972/laws.FnFlexed", spec := "fnFlexed", apart := false, narrowed := true }
def FnFlexedUptoSaid : Prop := fnFlexedUptoRow.holds Try.pinned (OpenSpec.upto fnFlexedSpec)

/-- 'laws.FnLineSizes', WHERE WHAT IT READS IS OF BULK AT MOST 1048576: true; the input reads as it did. -/
def fnLineSizesUptoRow : OpenClaim := { program := "ytdohglcjjlmhhaa", sum := "23c0e2864c3bebe7d99aed426a02d312eb6fe18a5fddfe30f3ffcf89a304eef1", func := "loop.example/g00972/laws.FnLineSizes", spec := "fnLineSizes", apart := false, narrowed := true }
def FnLineSizesUptoSaid : Prop := fnLineSizesUptoRow.holds Try.pinned (OpenSpec.upto fnLineSizesSpec)

/-- 'laws.FnAlong', WHERE WHAT IT READS IS OF BULK AT MOST 1048576: true; the input reads as it did. -/
def fnAlongUptoRow : OpenClaim := { program := "ytdohglcjjlmhhaa", sum := "23c0e2864c3bebe7d99aed426a02d312eb6fe18a5fddfe30f3ffcf89a304eef1", func := "loop.example/g00972/laws.FnAlong", spec := "fnAlong", unfollowed := true, recurses := true, apart := false, narrowed := true }
def FnAlongUptoSaid : Prop := fnAlongUptoRow.holds Try.pinned (OpenSpec.upto fnAlongSpec)

/-- 'laws.FnExactBare', WHERE WHAT IT READS IS OF BULK AT MOST 1048576: true; the input reads as it did. -/
def fnExactBareUptoRow : OpenClaim := { program := "ytdohglcjjlmhhaa", sum := "23c0e2864c3bebe7d99aed426a02d312eb6fe18a5fddfe30f3ffcf89a304eef1", func := "loop.example/g00972/laws.FnExactBare", spec := "fnExactBare", apart := false, narrowed := true }
def FnExactBareUptoSaid : Prop := fnExactBareUptoRow.holds Try.pinned (OpenSpec.upto fnExactBareSpec)

end Rows
end Go.Proofs.Ytdohglcjjlmhhaa
