/-
  No cell of these rows narrows 'for every input' (looked for: loops, veiled, ifaces, maps, wideKeys, modest, calm, conditions, laid).
  DERIVED. THE GIVEN ROWS OF THIS SEAT. 6 by the template 'for every input the law returns true; each argument reads behind the call as it read before'; 0 by the template 'total and deterministic' (their statements: YtpmbobopkfacmaaTotals.lean).
  GIVEN WITH THE SEED: the statements are not yours to turn. If you find one false, say at which input.
  Laid BY PROGRAM, IN A SANDBOX (cutbox-rows.mjs): the forced cells as the released guide's own fill.sh prints them over the translation f969b241dc95be3b… (all of the seat's roots in one cut). By AI agents, Wed Nov 11 2026. No macro, syntax, notation, axiom, sorry.
-/
import Derived.Test.YtpmbobopkfacmaaChecked
import GoSem.Claim
import GoSem.ClaimJoined
import GoSem.ClaimMapViews
import Derived.JoinedTies
import Derived.KernelRfl
namespace Go.Proofs.Ytpmbobopkfacmaa
/- THE CELL 'sum', in the pinned program and in every row, IS THE sha256 OF THE DUMP (.gsa) THAT YtpmbobopkfacmaaProg.lean LOADS. Nothing in Lean hashes anything: it is a label: what it is worth is what the hold of that sum in a sandbox is worth. -/
noncomputable def Try.pinned : Pinned := { name := "ytpmbobopkfacmaa", sum := "f969b241dc95be3b7c1e5bf30541c2ba430a0ff91ea0370a2079b9ad6d04d290", checked := Try.checked }
namespace Rows
def none {H : Type} : Left H := { results := [], args := [] }

/-- 'laws.FnExactCodeName': WHATEVER THE INPUT: true; the input reads as it did. -/
def fnExactCodeNameSpec : ChangeSpec := { name := "fnExactCodeName", fn := fun _ => fun
  | [d] => { results := [.lit (.bool true)], args := [d] }
  | _ => none }
def fnExactCodeNameRow : OpenClaim := { program := "ytpmbobopkfacmaa", sum := "f969b241dc95be3b7c1e5bf30541c2ba430a0ff91ea0370a2079b9ad6d04d290", func := "loop.example/g00972/laws.FnExactCodeName", spec := "fnExactCodeName", apart := false }
def FnExactCodeNameSaid : Prop := fnExactCodeNameRow.holds Try.pinned (OpenSpec.ofChange fnExactCodeNameSpec)

/-- ITS FALSE NEIGHBOUR: 'it returns false'. Refute it at one input. -/
def fnExactCodeNameWrong : ChangeSpec := { name := "fnExactCodeName", fn := fun _ => fun
  | [d] => { results := [.lit (.bool false)], args := [d] }
  | _ => none }
def FnExactCodeNameWrongFalsely : Prop := fnExactCodeNameRow.holds Try.pinned (OpenSpec.ofChange fnExactCodeNameWrong)

/-- 'laws.FnSnapped': WHATEVER THE INPUT: true; the input reads as it did. -/
def fnSnappedSpec : ChangeSpec := { name := "fnSnapped", fn := fun _ => fun
  | [d] => { results := [.lit (.bool true)], args := [d] }
  | _ => none }
def fnSnappedRow : OpenClaim := { program := "ytpmbobopkfacmaa", sum := "f969b241dc95be3b7c1e5bf30541c2ba430a0ff91ea0370a2079b9ad6d04d290", func := "loop.example/g00972/laws.FnSnapped", spec := "fnSnapped", apart := false }
def FnSnappedSaid : Prop := fnSnappedRow.holds Try.pinned (OpenSpec.ofChange fnSnappedSpec)

/-- ITS FALSE NEIGHBOUR: 'it returns false'. Refute it at one input. -/
def fnSnappedWrong : ChangeSpec := { name := "fnSnapped", fn := fun _ => fun
  | [d] => { results := [.lit (.bool false)], args := [d] }
  | _ => none }
def FnSnappedWrongFalsely : Prop := fnSnappedRow.holds Try.pinned (OpenSpec.ofChange fnSnappedWrong)

/-- 'laws.FnExactAskedOf': WHATEVER THE INPUT: true; the input reads as it did. -/
def fnExactAskedOfSpec : ChangeSpec := { name := "fnExactAskedOf", fn := fun _ => fun
  | [d1, d2] => { results := [.lit (.bool true)], args := [d1, d2] }
  | _ => none }
def fnExactAskedOfRow : OpenClaim := { program := "ytpmbobopkfacmaa", sum := "f969b241dc95be3b7c1e5bf30541c2ba430a0ff91ea0370a2079b9ad6d04d290", func := "loop.example/g00972/laws.FnExactAskedOf", spec := "fnExactAskedOf", apart := false }
def FnExactAskedOfSaid : Prop := fnExactAskedOfRow.holds Try.pinned (OpenSpec.ofChange fnExactAskedOfSpec)

/-- ITS FALSE NEIGHBOUR: 'it returns false'. Refute it at one input. -/
def fnExactAskedOfWrong : ChangeSpec := { name := "fnExactAskedOf", fn := fun _ => fun
  | [d1, d2] => { results := [.lit (.bool false)], args := [d1, d2] }
  | _ => none }
def FnExactAskedOfWrongFalsely : Prop := fnExactAskedOfRow.holds Try.pinned (OpenSpec.ofChange fnExactAskedOfWrong)

/-- 'laws.FnExactActOk': WHATEVER THE INPUT: true; the input reads as it did. -/
def fnExactActOkSpec : ChangeSpec := { name := "fnExactActOk", fn := fun _ => fun
  | [d] => { results := [.lit (.bool true)], args := [d] }
  | _ => none }
def fnExactActOkRow : OpenClaim := { program := "ytpmbobopkfacmaa", sum := "f969b241dc95be3b7c1e5bf30541c2ba430a0ff91ea0370a2079b9ad6d04d290", func := "loop.example/g00972/laws.FnExactActOk", spec := "fnExactActOk", apart := false }
def FnExactActOkSaid : Prop := fnExactActOkRow.holds Try.pinned (OpenSpec.ofChange fnExactActOkSpec)

/-- ITS FALSE NEIGHBOUR: 'it returns false'. Refute it at one input. -/
def fnExactActOkWrong : ChangeSpec := { name := "fnExactActOk", fn := fun _ => fun
  | [d] => { results := [.lit (.bool false)], args := [d] }
  | _ => none }
def FnExactActOkWrongFalsely : Prop := fnExactActOkRow.holds Try.pinned (OpenSpec.ofChange fnExactActOkWrong)

/-- 'laws.FnShares': WHATEVER THE INPUT: true; the input reads as it did. -/
def fnSharesSpec : ChangeSpec := { name := "fnShares", fn := fun _ => fun
  | [d] => { results := [.lit (.bool true)], args := [d] }
  | _ => none }
def fnSharesRow : OpenClaim := { program := "ytpmbobopkfacmaa", sum := "f969b241dc95be3b7c1e5bf30541c2ba430a0ff91ea0370a2079b9ad6d04d290", func := "loop.example/g00972/laws.FnShares", spec := "fnShares", apart := false }
def FnSharesSaid : Prop := fnSharesRow.holds Try.pinned (OpenSpec.ofChange fnSharesSpec)

/-- ITS FALSE NEIGHBOUR: 'it returns false'. Refute it at one input. -/
def fnSharesWrong : ChangeSpec := { name := "fnShares", fn := fun _ => fun
  | [d] => { results := [.lit (.bool false)], args := [d] }
  | _ => none }
def FnSharesWrongFalsely : Prop := fnSharesRow.holds Try.pinned (OpenSpec.ofChange fnSharesWrong)

/-- 'laws.FnExactLaysIn': WHATEVER THE INPUT: true; the input reads as it did. -/
def fnExactLaysInSpec : ChangeSpec := { name := "fnExactLaysIn", fn := fun _ => fun
  | [d] => { results := [.lit (.bool true)], args := [d] }
  | _ => none }
def fnExactLaysInRow : OpenClaim := { program := "ytpmbobopkfacmaa", sum := "f969b241dc95be3b7c1e5bf30541c2ba430a0ff91ea0370a2079b9ad6d04d290", func := "loop.example/g00972/laws.FnExactLaysIn", spec := "fnExactLaysIn", apart := false }
def FnExactLaysInSaid : Prop := fnExactLaysInRow.holds Try.pinned (OpenSpec.ofChange fnExactLaysInSpec)

/-- ITS FALSE NEIGHBOUR: 'it returns false'. Refute it at one input. -/
def fnExactLaysInWrong : ChangeSpec := { name := "fnExactLaysIn", fn := fun _ => fun
  | [d] => { results := [.lit (.bool false)], args := [d] }
  | _ => none }
def FnExactLaysInWrongFalsely : Prop := fnExactLaysInRow.holds Try.pinned (OpenSpec.ofChange fnExactLaysInWrong)

/- THE SECOND FORM. 'bulk': how many values and letters a reading holds, each counted each time it is reached (what is shared counts as often as it is met; a slice's spare places count too). A statement '..UptoSaid' is the law's where the arguments, and the package variables that the reading takes, are together of bulk at most 1048576: NARROWER than '..Said'. Prove '..Said' where nothing that the law and all that it calls make is longer than what came in: it says more and counts as full. Else prove '..UptoSaid'. A law counts once. -/
mutual
def uptoBulk {H : Type} : DataW H → Nat
  | .lit (.string bytes) => bytes.length + 1
  | .lit _ => 1
  | .nil => 1
  | .ptr d => uptoBulk d + 1
  | .slice elems spare => uptoBulkAll elems + uptoBulkAll spare + 1
  | .agg parts => uptoBulkAll parts + 1
  | .iface _ d => uptoBulk d + 1
  | .map entries => uptoBulkEntries entries + 1
  | .held _ => 1
def uptoBulkAll {H : Type} : List (DataW H) → Nat
  | [] => 0
  | d :: r => uptoBulk d + uptoBulkAll r
def uptoBulkEntries {H : Type} : List (Lit × DataW H) → Nat
  | [] => 0
  | x :: r => uptoBulkEntry x + uptoBulkEntries r
def uptoBulkEntry {H : Type} : Lit × DataW H → Nat
  | (.string bytes, d) => bytes.length + uptoBulk d + 1
  | (_, d) => uptoBulk d + 1
 end
def uptoSmall : (H : Type) → List (DataW H) → Bool := fun _ ds => decide (uptoBulkAll ds ≤ 1048576)
def OpenSpec.upto (s : _root_.Go.ChangeSpec) : _root_.Go.OpenSpec := { _root_.Go.OpenSpec.ofChange s with cond := some uptoSmall }

/-- 'laws.FnExactCodeName', WHERE WHAT IT READS IS OF BULK AT MOST 1048576: true; the input reads as it did. -/
def fnExactCodeNameUptoRow : OpenClaim := { program := "ytpmbobopkfacmaa", sum := "f969b241dc95be3b7c1e5bf30541c2ba430a0ff91ea0370a2079b9ad6d04d290", func := "loop.example/g00972/laws.FnExactCodeName", spec := "fnExactCodeName", apart := false, narrowed := true }
def FnExactCodeNameUptoSaid : Prop := fnExactCodeNameUptoRow.holds Try.pinned (OpenSpec.upto fnExactCodeNameSpec)

/-- 'laws.FnSnapped', WHERE WHAT IT READS IS OF BULK AT MOST 1048576: true; the input reads as it did. -/
def fnSnappedUptoRow : OpenClaim := { program := "ytpmbobopkfacmaa", sum := "f969b241dc95be3b7c1e5bf30541c2ba430a0ff91ea0370a2079b9ad6d04d290", func := "loop.example/g00972/laws.FnSnapped", spec := "fnSnapped", apart := false, narrowed := true }
def FnSnappedUptoSaid : Prop := fnSnappedUptoRow.holds Try.pinned (OpenSpec.upto fnSnappedSpec)

/-- 'laws.FnExactAskedOf', WHERE WHAT IT READS IS OF BULK AT MOST 1048576: true; the input reads as it did. -/
def fnExactAskedOfUptoRow : OpenClaim := { program := "ytpmbobopkfacmaa", sum := "f969b241dc95be3b7c1e5bf30541c2ba430a0ff91ea0370a2079b9ad6d04d290", func := "loop.example/g00972/laws.FnExactAskedOf", spec := "fnExactAskedOf", apart := false, narrowed := true }
def FnExactAskedOfUptoSaid : Prop := fnExactAskedOfUptoRow.holds Try.pinned (OpenSpec.upto fnExactAskedOfSpec)

/-- 'laws.FnExactActOk', WHERE WHAT IT READS IS OF BULK AT MOST 1048576: true; the input reads as it did. -/
def fnExactActOkUptoRow : OpenClaim := { program := "ytpmbobopkfacmaa", sum := "f969b241dc95be3b7c1e5bf30541c2ba430a0ff91ea0370a2079b9ad6d04d290", func := "loop.example/g00972/laws.FnExactActOk", spec := "fnExactActOk", apart := false, narrowed := true }
def FnExactActOkUptoSaid : Prop := fnExactActOkUptoRow.holds Try.pinned (OpenSpec.upto fnExactActOkSpec)

/-- 'laws.FnShares', WHERE WHAT IT READS IS OF BULK AT MOST 1048576: true; the input reads as it did. -/
def fnSharesUptoRow : OpenClaim := { program := "ytpmbobopkfacmaa", sum := "f969b241dc95be3b7c1e5bf30541c2ba430a0ff91ea0370a2079b9ad6d04d290", func := "loop.example/g00972/laws.FnShares", spec := "fnShares", apart := false, narrowed := true }
def FnSharesUptoSaid : Prop := fnSharesUptoRow.holds Try.pinned (OpenSpec.upto fnSharesSpec)

/-- 'laws.FnExactLaysIn', WHERE WHAT IT READS IS OF BULK AT MOST 1048576: true; the input reads as it did. -/
def fnExactLaysInUptoRow : OpenClaim := { program := "ytpmbobopkfacmaa", sum := "f969b241dc95be3b7c1e5bf30541c2ba430a0ff91ea0370a2079b9ad6d04d290", func := "loop.example/g00972/laws.FnExactLaysIn", spec := "fnExactLaysIn", apart := false, narrowed := true }
def FnExactLaysInUptoSaid : Prop := fnExactLaysInUptoRow.holds Try.pinned (OpenSpec.upto fnExactLaysInSpec)

end Rows
end Go.Proofs.Ytpmbobopkfacmaa
