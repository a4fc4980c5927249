/-
  No cell of these rows narrows 'for every input' (looked for: loops, veiled, ifaces, maps, wideKeys, modest, calm, conditions, laid).
  DERIVED. THE GIVEN ROWS OF THIS SEAT. 6 by the template 'for every input the law returns true; each argument reads behind the call as it read before'; 0 by the template 'total and deterministic' (their statements: YtcolkidnjojlmaaTotals.lean).
  GIVEN WITH THE SEED: the statements are not yours to turn. If you find one false, say at which input.
  Laid BY PROGRAM, IN A SANDBOX (cutbox-rows.mjs): the forced cells as the released guide's own fill.sh prints them over the translation dc06fa618992b8e1… (all of the seat's roots in one cut). By AI agents, Wed Nov 11 2026. No macro, syntax, notation, axiom, sorry.
-/
import Derived.Test.YtcolkidnjojlmaaChecked
import GoSem.Claim
import GoSem.ClaimJoined
import GoSem.ClaimMapViews
import Derived.JoinedTies
import Derived.KernelRfl
namespace Go.Proofs.Ytcolkidnjojlmaa
/- THE CELL 'sum', in the pinned program and in every row, IS THE sha256 OF THE DUMP (.gsa) THAT YtcolkidnjojlmaaProg.lean LOADS. Nothing in Lean hashes anything: it is a label: what it is worth is what the hold of that sum in a sandbox is worth. -/
noncomputable def Try.pinned : Pinned := { name := "ytcolkidnjojlmaa", sum := "dc06fa618992b8e1f9cf02b7383bcb76724869a4d34c9b753dfd42e5a3cf002c", checked := Try.checked }
namespace Rows
def none {H : Type} : Left H := { results := [], args := [] }

/-- 'laws.FnLines': WHATEVER THE INPUT: true; the input reads as it did. -/
def fnLinesSpec : ChangeSpec := { name := "fnLines", fn := fun _ => fun
  | [d] => { results := [.lit (.bool true)], args := [d] }
  | _ => none }
def fnLinesRow : OpenClaim := { program := "ytcolkidnjojlmaa", sum := "dc06fa618992b8e1f9cf02b7383bcb76724869a4d34c9b753dfd42e5a3cf002c", func := "loop.example/g00972/laws.FnLines", spec := "fnLines", apart := false }
def FnLinesSaid : Prop := fnLinesRow.holds Try.pinned (OpenSpec.ofChange fnLinesSpec)

/-- ITS FALSE NEIGHBOUR: 'it returns false'. Refute it at one input. -/
def fnLinesWrong : ChangeSpec := { name := "fnLines", fn := fun _ => fun
  | [d] => { results := [.lit (.bool false)], args := [d] }
  | _ => none }
def FnLinesWrongFalsely : Prop := fnLinesRow.holds Try.pinned (OpenSpec.ofChange fnLinesWrong)

/-- 'laws.FnFlexed': WHATEVER THE INPUT: true; the input reads as it did. -/
def fnFlexedSpec : ChangeSpec := { name := "fnFlexed", fn := fun _ => fun
  | [d] => { results := [.lit (.bool true)], args := [d] }
  | _ => none }
def fnFlexedRow : OpenClaim := { program := "ytcolkidnjojlmaa", sum := "dc06fa618992b8e1f9cf02b7383bcb76724869a4d34c9b753dfd42e5a3cf002c", func := "loop.example/g00972/laws.FnFlexed", spec := "fnFlexed", apart := false }
def FnFlexedSaid : Prop := fnFlexedRow.holds Try.pinned (OpenSpec.ofChange fnFlexedSpec)

/-- ITS FALSE NEIGHBOUR: 'it returns false'. Refute it at one input. -/
def fnFlexedWrong : ChangeSpec := { name := "fnFlexed", fn := fun _ => fun
  | [d] => { results := [.lit (.bool false)], args := [d] }
  | _ => none }
def FnFlexedWrongFalsely : Prop := fnFlexedRow.holds Try.pinned (OpenSpec.ofChange fnFlexedWrong)

/-- 'laws.FnExactMemosOf': WHATEVER THE INPUT: true; the input reads as it did. -/
def fnExactMemosOfSpec : ChangeSpec := { name := "fnExactMemosOf", fn := fun _ => fun
  | [d1, d2] => { results := [.lit (.bool true)], args := [d1, d2] }
  | _ => none }
def fnExactMemosOfRow : OpenClaim := { program := "ytcolkidnjojlmaa", sum := "dc06fa618992b8e1f9cf02b7383bcb76724869a4d34c9b753dfd42e5a3cf002c", func := "loop.example/g00972/laws.FnExactMemosOf", spec := "fnExactMemosOf", apart := false }
def FnExactMemosOfSaid : Prop := fnExactMemosOfRow.holds Try.pinned (OpenSpec.ofChange fnExactMemosOfSpec)

/-- ITS FALSE NEIGHBOUR: 'it returns false'. Refute it at one input. -/
def fnExactMemosOfWrong : ChangeSpec := { name := "fnExactMemosOf", fn := fun _ => fun
  | [d1, d2] => { results := [.lit (.bool false)], args := [d1, d2] }
  | _ => none }
def FnExactMemosOfWrongFalsely : Prop := fnExactMemosOfRow.holds Try.pinned (OpenSpec.ofChange fnExactMemosOfWrong)

/-- 'laws.FnExactSameEngine': WHATEVER THE INPUT: true; the input reads as it did. -/
def fnExactSameEngineSpec : ChangeSpec := { name := "fnExactSameEngine", fn := fun _ => fun
  | [d1, d2] => { results := [.lit (.bool true)], args := [d1, d2] }
  | _ => none }
def fnExactSameEngineRow : OpenClaim := { program := "ytcolkidnjojlmaa", sum := "dc06fa618992b8e1f9cf02b7383bcb76724869a4d34c9b753dfd42e5a3cf002c", func := "loop.example/g00972/laws.FnExactSameEngine", spec := "fnExactSameEngine", apart := false }
def FnExactSameEngineSaid : Prop := fnExactSameEngineRow.holds Try.pinned (OpenSpec.ofChange fnExactSameEngineSpec)

/-- ITS FALSE NEIGHBOUR: 'it returns false'. Refute it at one input. -/
def fnExactSameEngineWrong : ChangeSpec := { name := "fnExactSameEngine", fn := fun _ => fun
  | [d1, d2] => { results := [.lit (.bool false)], args := [d1, d2] }
  | _ => none }
def FnExactSameEngineWrongFalsely : Prop := fnExactSameEngineRow.holds Try.pinned (OpenSpec.ofChange fnExactSameEngineWrong)

/-- 'laws.FnExactStaleOf': WHATEVER THE INPUT: true; the input reads as it did. -/
def fnExactStaleOfSpec : ChangeSpec := { name := "fnExactStaleOf", fn := fun _ => fun
  | [d] => { results := [.lit (.bool true)], args := [d] }
  | _ => none }
def fnExactStaleOfRow : OpenClaim := { program := "ytcolkidnjojlmaa", sum := "dc06fa618992b8e1f9cf02b7383bcb76724869a4d34c9b753dfd42e5a3cf002c", func := "loop.example/g00972/laws.FnExactStaleOf", spec := "fnExactStaleOf", apart := false }
def FnExactStaleOfSaid : Prop := fnExactStaleOfRow.holds Try.pinned (OpenSpec.ofChange fnExactStaleOfSpec)

/-- ITS FALSE NEIGHBOUR: 'it returns false'. Refute it at one input. -/
def fnExactStaleOfWrong : ChangeSpec := { name := "fnExactStaleOf", fn := fun _ => fun
  | [d] => { results := [.lit (.bool false)], args := [d] }
  | _ => none }
def FnExactStaleOfWrongFalsely : Prop := fnExactStaleOfRow.holds Try.pinned (OpenSpec.ofChange fnExactStaleOfWrong)

/-- 'laws.FnExactRoomsAsked': WHATEVER THE INPUT: true; the input reads as it did. -/
def fnExactRoomsAskedSpec : ChangeSpec := { name := "fnExactRoomsAsked", fn := fun _ => fun
  | [d1, d2] => { results := [.lit (.bool true)], args := [d1, d2] }
  | _ => none }
def fnExactRoomsAskedRow : OpenClaim := { program := "ytcolkidnjojlmaa", sum := "dc06fa618992b8e1f9cf02b7383bcb76724869a4d34c9b753dfd42e5a3cf002c", func := "loop.example/g00972/laws.FnExactRoomsAsked", spec := "fnExactRoomsAsked", apart := false }
def FnExactRoomsAskedSaid : Prop := fnExactRoomsAskedRow.holds Try.pinned (OpenSpec.ofChange fnExactRoomsAskedSpec)

/-- ITS FALSE NEIGHBOUR: 'it returns false'. Refute it at one input. -/
def fnExactRoomsAskedWrong : ChangeSpec := { name := "fnExactRoomsAsked", fn := fun _ => fun
  | [d1, d2] => { results := [.lit (.bool false)], args := [d1, d2] }
  | _ => none }
def FnExactRoomsAskedWrongFalsely : Prop := fnExactRoomsAskedRow.holds Try.pinned (OpenSpec.ofChange fnExactRoomsAskedWrong)

/- THE SECOND FORM. 'bulk': how many values and letters a reading holds, each counted each time it is reached (what is shared counts as often as it is met; a slice's spare places count too). A statement '..UptoSaid' is the law's where the arguments, and the package variables that the reading takes, are together of bulk at most 1048576: NARROWER than '..Said'. Prove '..Said' where nothing that the law and all that it calls make is longer than what came in: it says more and counts as full. Else prove '..UptoSaid'. A law counts once. -/
mutual
def uptoBulk {H : Type} : DataW H → Nat
  | .lit (.string bytes) => bytes.length + 1
  | .lit _ => 1
  | .nil => 1
  | .ptr d => uptoBulk d + 1
  | .slice elems spare => uptoBulkAll elems + uptoBulkAll spare + 1
  | .agg parts => uptoBulkAll parts + 1
  | .iface _ d => uptoBulk d + 1
  | .map entries => uptoBulkEntries entries + 1
  | .held _ => 1
def uptoBulkAll {H : Type} : List (DataW H) → Nat
  | [] => 0
  | d :: r => uptoBulk d + uptoBulkAll r
def uptoBulkEntries {H : Type} : List (Lit × DataW H) → Nat
  | [] => 0
  | x :: r => uptoBulkEntry x + uptoBulkEntries r
def uptoBulkEntry {H : Type} : Lit × DataW H → Nat
  | (.string bytes, d) => bytes.length + uptoBulk d + 1
  | (_, d) => uptoBulk d + 1
 end
def uptoSmall : (H : Type) → List (DataW H) → Bool := fun _ ds => decide (uptoBulkAll ds ≤ 1048576)
def OpenSpec.upto (s : _root_.Go.ChangeSpec) : _root_.Go.OpenSpec := { _root_.Go.OpenSpec.ofChange s with cond := some uptoSmall }

/-- 'laws.FnLines', WHERE WHAT IT READS IS OF BULK AT MOST 1048576: true; the input reads as it did. -/
def fnLinesUptoRow : OpenClaim := { program := "ytcolkidnjojlmaa", sum := "dc06fa618992b8e1f9cf02b7383bcb76724869a4d34c9b753dfd42e5a3cf002c", func := "loop.example/g00972/laws.FnLines", spec := "fnLines", apart := false, narrowed := true }
def FnLinesUptoSaid : Prop := fnLinesUptoRow.holds Try.pinned (OpenSpec.upto fnLinesSpec)

/-- 'laws.FnFlexed', WHERE WHAT IT READS IS OF BULK AT MOST 1048576: true; the input reads as it did. -/
def fnFlexedUptoRow : OpenClaim := { program := "ytcolkidnjojlmaa", sum := "dc06fa618992b8e1f9cf02b7383bcb76724869a4d34c9b753dfd42e5a3cf002c", func := "loop.example/g00972/laws.FnFlexed", spec := "fnFlexed", apart := false, narrowed := true }
def FnFlexedUptoSaid : Prop := fnFlexedUptoRow.holds Try.pinned (OpenSpec.upto fnFlexedSpec)

/-- 'laws.FnExactMemosOf', WHERE WHAT IT READS IS OF BULK AT MOST 1048576: true; the input reads as it did. -/
def fnExactMemosOfUptoRow : OpenClaim := { program := "ytcolkidnjojlmaa", sum := "dc06fa618992b8e1f9cf02b7383bcb76724869a4d34c9b753dfd42e5a3cf002c", func := "loop.example/g00972/laws.FnExactMemosOf", spec := "fnExactMemosOf", apart := false, narrowed := true }
def FnExactMemosOfUptoSaid : Prop := fnExactMemosOfUptoRow.holds Try.pinned (OpenSpec.upto fnExactMemosOfSpec)

/-- 'laws.FnExactSameEngine', WHERE WHAT IT READS IS OF BULK AT MOST 1048576: true; the input reads as it did. -/
def fnExactSameEngineUptoRow : OpenClaim := { program := "ytcolkidnjojlmaa", sum := "dc06fa618992b8e1f9cf02b7383bcb76724869a4d34c9b753dfd42e5a3cf002c", func := "loop.example/g00972/laws.FnExactSameEngine", spec := "fnExactSameEngine", apart := false, narrowed := true }
def FnExactSameEngineUptoSaid : Prop := fnExactSameEngineUptoRow.holds Try.pinned (OpenSpec.upto fnExactSameEngineSpec)

/-- 'laws.FnExactStaleOf', WHERE WHAT IT READS IS OF BULK AT MOST 1048576: true; the input reads as it did. -/
def fnExactStaleOfUptoRow : OpenClaim := { program := "ytcolkidnjojlmaa", sum := "dc06fa618992b8e1f9cf02b7383bcb76724869a4d34c9b753dfd42e5a3cf002c", func := "loop.example/g00972/laws.FnExactStaleOf", spec := "fnExactStaleOf", apart := false, narrowed := true }
def FnExactStaleOfUptoSaid : Prop := fnExactStaleOfUptoRow.holds Try.pinned (OpenSpec.upto fnExactStaleOfSpec)

/-- 'laws.FnExactRoomsAsked', WHERE WHAT IT READS IS OF BULK AT MOST 1048576: true; the input reads as it did. -/
def fnExactRoomsAskedUptoRow : OpenClaim := { program := "ytcolkidnjojlmaa", sum := "dc06fa618992b8e1f9cf02b7383bcb76724869a4d34c9b753dfd42e5a3cf002c", func := "loop.example/g00972/laws.FnExactRoomsAsked", spec := "fnExactRoomsAsked", apart := false, narrowed := true }
def FnExactRoomsAskedUptoSaid : Prop := fnExactRoomsAskedUptoRow.holds Try.pinned (OpenSpec.upto fnExactRoomsAskedSpec)

end Rows
end Go.Proofs.Ytcolkidnjojlmaa
