/-
  No cell of these rows narrows 'for every input' (looked for: loops, veiled, ifaces, maps, wideKeys, modest, calm, conditions, laid).
  DERIVED. THE GIVEN ROWS OF THIS SEAT. 6 by the template 'for every input the law returns true; each argument reads behind the call as it read before'; 0 by the template 'total and deterministic' (their statements: YtefgjjmnjanleaaTotals.lean).
  GIVEN WITH THE SEED: the statements are not yours to turn. If you find one false, say at which input.
  Laid BY PROGRAM, IN A SANDBOX (cutbox-rows.mjs): the forced cells as the released guide's own fill.sh prints them over the translation 26c3bb77b52380a8… (all of the seat's roots in one cut). By AI agents, Wed Nov 11 2026. No macro, syntax, notation, axiom, sorry.
-/
import Derived.Test.YtefgjjmnjanleaaChecked
import GoSem.Claim
import GoSem.ClaimJoined
import GoSem.ClaimMapViews
import Derived.JoinedTies
import Derived.KernelRfl
namespace Go.Proofs.Ytefgjjmnjanleaa
/- THE CELL 'sum', in the pinned program and in every row, IS THE sha256 OF THE DUMP (.gsa) THAT YtefgjjmnjanleaaProg.lean LOADS. Nothing in Lean hashes anything: it is a label: what it is worth is what the hold of that sum in a sandbox is worth. -/
noncomputable def Try.pinned : Pinned := { name := "ytefgjjmnjanleaa", sum := "26c3bb77b52380a869805cdc87e7803ad53c9b731eb618aa27420a988414d71c", checked := Try.checked }
namespace Rows
def none {H : Type} : Left H := { results := [], args := [] }

/-- 'laws.FnTables': WHATEVER THE INPUT: true; the input reads as it did. -/
def fnTablesSpec : ChangeSpec := { name := "fnTables", fn := fun _ => fun
  | [d] => { results := [.lit (.bool true)], args := [d] }
  | _ => none }
def fnTablesRow : OpenClaim := { program := "ytefgjjmnjanleaa", sum := "26c3bb77b52380a869805cdc87e7803ad53c9b731eb618aa27420a988414d71c", func := "loop.example/g00972/laws.FnTables", spec := "fnTables", apart := false }
def FnTablesSaid : Prop := fnTablesRow.holds Try.pinned (OpenSpec.ofChange fnTablesSpec)

/-- ITS FALSE NEIGHBOUR: 'it returns false'. Refute it at one input. -/
def fnTablesWrong : ChangeSpec := { name := "fnTables", fn := fun _ => fun
  | [d] => { results := [.lit (.bool false)], args := [d] }
  | _ => none }
def FnTablesWrongFalsely : Prop := fnTablesRow.holds Try.pinned (OpenSpec.ofChange fnTablesWrong)

/-- 'laws.FnEvenly': WHATEVER THE INPUT: true; the input reads as it did. -/
def fnEvenlySpec : ChangeSpec := { name := "fnEvenly", fn := fun _ => fun
  | [d] => { results := [.lit (.bool true)], args := [d] }
  | _ => none }
def fnEvenlyRow : OpenClaim := { program := "ytefgjjmnjanleaa", sum := "26c3bb77b52380a869805cdc87e7803ad53c9b731eb618aa27420a988414d71c", func := "loop.example/g00972/laws.FnEvenly", spec := "fnEvenly", apart := false }
def FnEvenlySaid : Prop := fnEvenlyRow.holds Try.pinned (OpenSpec.ofChange fnEvenlySpec)

/-- ITS FALSE NEIGHBOUR: 'it returns false'. Refute it at one input. -/
def fnEvenlyWrong : ChangeSpec := { name := "fnEvenly", fn := fun _ => fun
  | [d] => { results := [.lit (.bool false)], args := [d] }
  | _ => none }
def FnEvenlyWrongFalsely : Prop := fnEvenlyRow.holds Try.pinned (OpenSpec.ofChange fnEvenlyWrong)

/-- 'laws.FnLines': WHATEVER THE INPUT: true; the input reads as it did. -/
def fnLinesSpec : ChangeSpec := { name := "fnLines", fn := fun _ => fun
  | [d] => { results := [.lit (.bool true)], args := [d] }
  | _ => none }
def fnLinesRow : OpenClaim := { program := "ytefgjjmnjanleaa", sum := "26c3bb77b52380a869805cdc87e7803ad53c9b731eb618aa27420a988414d71c", func := "loop.example/g00972/laws.FnLines", spec := "fnLines", apart := false }
def FnLinesSaid : Prop := fnLinesRow.holds Try.pinned (OpenSpec.ofChange fnLinesSpec)

/-- ITS FALSE NEIGHBOUR: 'it returns false'. Refute it at one input. -/
def fnLinesWrong : ChangeSpec := { name := "fnLines", fn := fun _ => fun
  | [d] => { results := [.lit (.bool false)], args := [d] }
  | _ => none }
def FnLinesWrongFalsely : Prop := fnLinesRow.holds Try.pinned (OpenSpec.ofChange fnLinesWrong)

/-- 'laws.FnAcross': WHATEVER THE INPUT: true; the input reads as it did. -/
def fnAcrossSpec : ChangeSpec := { name := "fnAcross", fn := fun _ => fun
  | [d] => { results := [.lit (.bool true)], args := [d] }
  | _ => none }
def fnAcrossRow : OpenClaim := { program := "ytefgjjmnjanleaa", sum := "26c3bb77b52380a869805cdc87e7803ad53c9b731eb618aa27420a988414d71c", func := "loop.example/g00972/laws.FnAcross", spec := "fnAcross", apart := false }
def FnAcrossSaid : Prop := fnAcrossRow.holds Try.pinned (OpenSpec.ofChange fnAcrossSpec)

/-- ITS FALSE NEIGHBOUR: 'it returns false'. Refute it at one input. -/
def fnAcrossWrong : ChangeSpec := { name := "fnAcross", fn := fun _ => fun
  | [d] => { results := [.lit (.bool false)], args := [d] }
  | _ => none }
def FnAcrossWrongFalsely : Prop := fnAcrossRow.holds Try.pinned (OpenSpec.ofChange fnAcrossWrong)

/-- 'laws.FnFlexed': WHATEVER THE INPUT: true; the input reads as it did. -/
def fnFlexedSpec : ChangeSpec := { name := "fnFlexed", fn := fun _ => fun
  | [d] => { results := [.lit (.bool true)], args := [d] }
  | _ => none }
def fnFlexedRow : OpenClaim := { program := "ytefgjjmnjanleaa", sum := "26c3bb77b52380a869805cdc87e7803ad53c9b731eb618aa27420a988414d71c", func := "loop.example/g00972/laws.FnFlexed", spec := "fnFlexed", apart := false }
def FnFlexedSaid : Prop := fnFlexedRow.holds Try.pinned (OpenSpec.ofChange fnFlexedSpec)

/-- ITS FALSE NEIGHBOUR: 'it returns false'. Refute it at one input. -/
def fnFlexedWrong : ChangeSpec := { name := "fnFlexed", fn := fun _ => fun
  | [d] => { results := [.lit (.bool false)], args := [d] }
  | _ => none }
def FnFlexedWrongFalsely : Prop := fnFlexedRow.holds Try.pinned (OpenSpec.ofChange fnFlexedWrong)

/-- 'laws.FnExactAskedNodes': WHATEVER THE INPUT: true; the input reads as it did. -/
def fnExactAskedNodesSpec : ChangeSpec := { name := "fnExactAskedNodes", fn := fun _ => fun
  | [d] => { results := [.lit (.bool true)], args := [d] }
  | _ => none }
def fnExactAskedNodesRow : OpenClaim := { program := "ytefgjjmnjanleaa", sum := "26c3bb77b52380a869805cdc87e7803ad53c9b731eb618aa27420a988414d71c", func := "loop.example/g00972/laws.FnExactAskedNodes", spec := "fnExactAskedNodes", recurses := true, apart := false }
def FnExactAskedNodesSaid : Prop := fnExactAskedNodesRow.holds Try.pinned (OpenSpec.ofChange fnExactAskedNodesSpec)

/-- ITS FALSE NEIGHBOUR: 'it returns false'. Refute it at one input. -/
def fnExactAskedNodesWrong : ChangeSpec := { name := "fnExactAskedNodes", fn := fun _ => fun
  | [d] => { results := [.lit (.bool false)], args := [d] }
  | _ => none }
def FnExactAskedNodesWrongFalsely : Prop := fnExactAskedNodesRow.holds Try.pinned (OpenSpec.ofChange fnExactAskedNodesWrong)

/- THE SECOND FORM. 'bulk': how many values and letters a reading holds, each counted each time it is reached (what is shared counts as often as it is met; a slice's spare places count too). A statement '..UptoSaid' is the law's where the arguments, and the package variables that the reading takes, are together of bulk at most 1048576: NARROWER than '..Said'. Prove '..Said' where nothing that the law and all that it calls make is longer than what came in: it says more and counts as full. Else prove '..UptoSaid'. A law counts once. -/
mutual
def uptoBulk {H : Type} : DataW H → Nat
  | .lit (.string bytes) => bytes.length + 1
  | .lit _ => 1
  | .nil => 1
  | .ptr d => uptoBulk d + 1
  | .slice elems spare => uptoBulkAll elems + uptoBulkAll spare + 1
  | .agg parts => uptoBulkAll parts + 1
  | .iface _ d => uptoBulk d + 1
  | .map entries => uptoBulkEntries entries + 1
  | .held _ => 1
def uptoBulkAll {H : Type} : List (DataW H) → Nat
  | [] => 0
  | d :: r => uptoBulk d + uptoBulkAll r
def uptoBulkEntries {H : Type} : List (Lit × DataW H) → Nat
  | [] => 0
  | x :: r => uptoBulkEntry x + uptoBulkEntries r
def uptoBulkEntry {H : Type} : Lit × DataW H → Nat
  | (.string bytes, d) => bytes.length + uptoBulk d + 1
  | (_, d) => uptoBulk d + 1
 end
def uptoSmall : (H : Type) → List (DataW H) → Bool := fun _ ds => decide (uptoBulkAll ds ≤ 1048576)
def OpenSpec.upto (s : _root_.Go.ChangeSpec) : _root_.Go.OpenSpec := { _root_.Go.OpenSpec.ofChange s with cond := some uptoSmall }

/-- 'laws.FnTables', WHERE WHAT IT READS IS OF BULK AT MOST 1048576: true; the input reads as it did. -/
def fnTablesUptoRow : OpenClaim := { program := "ytefgjjmnjanleaa", sum := "26c3bb77b52380a869805cdc87e7803ad53c9b731eb618aa27420a988414d71c", func := "loop.example/g00972/laws.FnTables", spec := "fnTables", apart := false, narrowed := true }
def FnTablesUptoSaid : Prop := fnTablesUptoRow.holds Try.pinned (OpenSpec.upto fnTablesSpec)

/-- 'laws.FnEvenly', WHERE WHAT IT READS IS OF BULK AT MOST 1048576: true; the input reads as it did. -/
def fnEvenlyUptoRow : OpenClaim := { program := "ytefgjjmnjanleaa", sum := "26c3bb77b52380a869805cdc87e7803ad53c9b731eb618aa27420a988414d71c", func := "loop.example/g00972/laws.FnEvenly", spec := "fnEvenly", apart := false, narrowed := true }
def FnEvenlyUptoSaid : Prop := fnEvenlyUptoRow.holds Try.pinned (OpenSpec.upto fnEvenlySpec)

/-- 'laws.FnLines', WHERE WHAT IT READS IS OF BULK AT MOST 1048576: true; the input reads as it did. -/
def fnLinesUptoRow : OpenClaim := { program := "ytefgjjmnjanleaa", sum := "26c3bb77b52380a869805cdc87e7803ad53c9b731eb618aa27420a988414d71c", func := "loop.example/g00972/laws.FnLines", spec := "fnLines", apart := false, narrowed := true }
def FnLinesUptoSaid : Prop := fnLinesUptoRow.holds Try.pinned (OpenSpec.upto fnLinesSpec)

/-- 'laws.FnAcross', WHERE WHAT IT READS IS OF BULK AT MOST 1048576: true; the input reads as it did. -/
def fnAcrossUptoRow : OpenClaim := { program := "ytefgjjmnjanleaa", sum := "26c3bb77b52380a869805cdc87e7803ad53c9b731eb618aa27420a988414d71c", func := "loop.example/g00972/laws.FnAcross", spec := "fnAcross", apart := false, narrowed := true }
def FnAcrossUptoSaid : Prop := fnAcrossUptoRow.holds Try.pinned (OpenSpec.upto fnAcrossSpec)

/-- 'laws.FnFlexed', WHERE WHAT IT READS IS OF BULK AT MOST 1048576: true; the input reads as it did. -/
def fnFlexedUptoRow : OpenClaim := { program := "ytefgjjmnjanleaa", sum := "26c3bb77b52380a869805cdc87e7803ad53c9b731eb618aa27420a988414d71c", func := "loop.example/g00972/laws.FnFlexed", spec := "fnFlexed", apart := false, narrowed := true }
def FnFlexedUptoSaid : Prop := fnFlexedUptoRow.holds Try.pinned (OpenSpec.upto fnFlexedSpec)

/-- 'laws.FnExactAskedNodes', WHERE WHAT IT READS IS OF BULK AT MOST 1048576: true; the input reads as it did. -/
def fnExactAskedNodesUptoRow : OpenClaim := { program := "ytefgjjmnjanleaa", sum := "26c3bb77b52380a869805cdc87e7803ad53c9b731eb618aa27420a988414d71c", func := "loop.example/g00972/laws.FnExactAskedNodes", spec := "fnExactAskedNodes", recurses := true, apart := false, narrowed := true }
def FnExactAskedNodesUptoSaid : Prop := fnExactAskedNodesUptoRow.holds Try.pinned (OpenSpec.upto fnExactAskedNodesSpec)

end Rows
end Go.Proofs.Ytefgjjmnjanleaa
