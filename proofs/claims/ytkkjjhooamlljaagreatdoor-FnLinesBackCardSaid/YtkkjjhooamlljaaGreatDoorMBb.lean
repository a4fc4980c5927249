/-
  PROVED: contracts of functions and words on memory, several texts put together: what each says stands at its theorems. Conditions: as told there.
-/
import Derived.Test.YtkkjjhooamlljaaGreatDoorMBa
import Derived.Test.YtkkjjhooamlljaaGreatDoorProg
import Derived.Test.YtkkjjhooamlljaaGreatDoorChecked
import Derived.Deep.QuietTactic
import Derived.BigQuiet
import Derived.Outline
import Derived.WalkLawsBesides
import Derived.Deep.RegionHeld3
import Derived.StillTailTactics
import Derived.Laws.OwnMore
import Derived.Deep.Onto
set_option linter.unusedVariables false
set_option linter.unusedSimpArgs false
namespace Go.Proofs.YtkkjjhooamlljaaGreatDoor

instance : TOne Tryz.prog 2 := ⟨⟨_, Tryz.underlying2, rfl⟩, by kernel_rfl⟩
instance : TEl Tryz.prog 2 1 8 (.int .i64 0) := ⟨by kernel_rfl, rfl, by decide⟩
instance : TZero Tryz.prog 2 [.int .i64 0] := ⟨.int .i64 0, by kernel_rfl, rfl⟩
instance : TOne Tryz.prog 3 := ⟨⟨_, Tryz.underlying3, rfl⟩, by kernel_rfl⟩
instance : TEl Tryz.prog 3 1 8 (.int .i64 0) := ⟨by kernel_rfl, rfl, by decide⟩
instance : TZero Tryz.prog 3 [.int .i64 0] := ⟨.int .i64 0, by kernel_rfl, rfl⟩
instance : TOne Tryz.prog 4 := ⟨⟨_, Tryz.underlying4, rfl⟩, by kernel_rfl⟩
instance : TBool Tryz.prog 4 := ⟨Tryz.underlying4⟩
instance : TEl Tryz.prog 4 1 1 (.bool false) := ⟨by kernel_rfl, rfl, by decide⟩
instance : TZero Tryz.prog 4 [.bool false] := ⟨.bool false, by kernel_rfl, rfl⟩
instance : TOne Tryz.prog 5 := ⟨⟨_, Tryz.underlying5, rfl⟩, by kernel_rfl⟩
instance : TEl Tryz.prog 5 1 1 (.int .u8 0) := ⟨by kernel_rfl, rfl, by decide⟩
instance : TZero Tryz.prog 5 [.int .u8 0] := ⟨.int .u8 0, by kernel_rfl, rfl⟩
instance : TOne Tryz.prog 6 := ⟨⟨_, Tryz.underlying6, rfl⟩, by kernel_rfl⟩
instance : TEl Tryz.prog 6 1 1 (.int .u8 0) := ⟨by kernel_rfl, rfl, by decide⟩
instance : TZero Tryz.prog 6 [.int .u8 0] := ⟨.int .u8 0, by kernel_rfl, rfl⟩
instance : TRow Tryz.prog 7 4 := ⟨⟨_, Tryz.underlying7, rfl⟩, by kernel_rfl⟩
instance : TFld Tryz.prog 7 0 0 := ⟨_, _, 0, Tryz.underlying7, rfl, rfl, by kernel_rfl⟩
instance : TFld Tryz.prog 7 1 1 := ⟨_, _, 0, Tryz.underlying7, rfl, rfl, by kernel_rfl⟩
instance : TFld Tryz.prog 7 2 2 := ⟨_, _, 0, Tryz.underlying7, rfl, rfl, by kernel_rfl⟩
instance : TFld Tryz.prog 7 3 3 := ⟨_, _, 0, Tryz.underlying7, rfl, rfl, by kernel_rfl⟩
instance : TEl Tryz.prog 7 4 24 (.agg #[.int .i64 0, .int .i64 0, .bool false, .int .u8 0]) := ⟨by kernel_rfl, rfl, by decide⟩
instance : TZero Tryz.prog 7 [.int .i64 0, .int .i64 0, .bool false, .int .u8 0] := ⟨.agg #[.int .i64 0, .int .i64 0, .bool false, .int .u8 0], by kernel_rfl, rfl⟩
instance : TRow Tryz.prog 8 4 := ⟨⟨_, Tryz.underlying8, rfl⟩, by kernel_rfl⟩
instance : TFld Tryz.prog 8 0 0 := ⟨_, _, 0, Tryz.underlying8, rfl, rfl, by kernel_rfl⟩
instance : TFld Tryz.prog 8 1 1 := ⟨_, _, 0, Tryz.underlying8, rfl, rfl, by kernel_rfl⟩
instance : TFld Tryz.prog 8 2 2 := ⟨_, _, 0, Tryz.underlying8, rfl, rfl, by kernel_rfl⟩
instance : TFld Tryz.prog 8 3 3 := ⟨_, _, 0, Tryz.underlying8, rfl, rfl, by kernel_rfl⟩
instance : TEl Tryz.prog 8 4 24 (.agg #[.int .i64 0, .int .i64 0, .bool false, .int .u8 0]) := ⟨by kernel_rfl, rfl, by decide⟩
instance : TZero Tryz.prog 8 [.int .i64 0, .int .i64 0, .bool false, .int .u8 0] := ⟨.agg #[.int .i64 0, .int .i64 0, .bool false, .int .u8 0], by kernel_rfl, rfl⟩
instance : TOne Tryz.prog 9 := ⟨⟨_, Tryz.underlying9, rfl⟩, by kernel_rfl⟩
instance : TStr Tryz.prog 9 := ⟨Tryz.underlying9⟩
instance : TEl Tryz.prog 9 1 16 (.string ⟨#[]⟩) := ⟨by kernel_rfl, rfl, by decide⟩
instance : TZero Tryz.prog 9 [.string ⟨#[]⟩] := ⟨.string ⟨#[]⟩, by kernel_rfl, rfl⟩
instance : TOne Tryz.prog 10 := ⟨⟨_, Tryz.underlying10, rfl⟩, by kernel_rfl⟩
instance : TStr Tryz.prog 10 := ⟨Tryz.underlying10⟩
instance : TEl Tryz.prog 10 1 16 (.string ⟨#[]⟩) := ⟨by kernel_rfl, rfl, by decide⟩
instance : TZero Tryz.prog 10 [.string ⟨#[]⟩] := ⟨.string ⟨#[]⟩, by kernel_rfl, rfl⟩
instance : TOne Tryz.prog 11 := ⟨⟨_, Tryz.underlying11, rfl⟩, by kernel_rfl⟩
instance : TStr Tryz.prog 11 := ⟨Tryz.underlying11⟩
instance : TEl Tryz.prog 11 1 16 (.string ⟨#[]⟩) := ⟨by kernel_rfl, rfl, by decide⟩
instance : TZero Tryz.prog 11 [.string ⟨#[]⟩] := ⟨.string ⟨#[]⟩, by kernel_rfl, rfl⟩
instance : TOne Tryz.prog 12 := ⟨⟨_, Tryz.underlying12, rfl⟩, by kernel_rfl⟩
instance : TEl Tryz.prog 12 1 8 (.int .u64 0) := ⟨by kernel_rfl, rfl, by decide⟩
instance : TZero Tryz.prog 12 [.int .u64 0] := ⟨.int .u64 0, by kernel_rfl, rfl⟩
instance : TRow Tryz.prog 13 2 := ⟨⟨_, Tryz.underlying13, rfl⟩, by kernel_rfl⟩
instance : TFld Tryz.prog 13 0 0 := ⟨_, _, 0, Tryz.underlying13, rfl, rfl, by kernel_rfl⟩
instance : TFld Tryz.prog 13 1 1 := ⟨_, _, 0, Tryz.underlying13, rfl, rfl, by kernel_rfl⟩
instance : TEl Tryz.prog 13 2 24 (.agg #[.string ⟨#[]⟩, .int .u64 0]) := ⟨by kernel_rfl, rfl, by decide⟩
instance : TZero Tryz.prog 13 [.string ⟨#[]⟩, .int .u64 0] := ⟨.agg #[.string ⟨#[]⟩, .int .u64 0], by kernel_rfl, rfl⟩
instance : TRow Tryz.prog 14 2 := ⟨⟨_, Tryz.underlying14, rfl⟩, by kernel_rfl⟩
instance : TFld Tryz.prog 14 0 0 := ⟨_, _, 0, Tryz.underlying14, rfl, rfl, by kernel_rfl⟩
instance : TFld Tryz.prog 14 1 1 := ⟨_, _, 0, Tryz.underlying14, rfl, rfl, by kernel_rfl⟩
instance : TEl Tryz.prog 14 2 24 (.agg #[.string ⟨#[]⟩, .int .u64 0]) := ⟨by kernel_rfl, rfl, by decide⟩
instance : TZero Tryz.prog 14 [.string ⟨#[]⟩, .int .u64 0] := ⟨.agg #[.string ⟨#[]⟩, .int .u64 0], by kernel_rfl, rfl⟩
instance : TOne Tryz.prog 15 := ⟨⟨_, Tryz.underlying15, rfl⟩, by kernel_rfl⟩
instance : TPtr Tryz.prog 15 := ⟨⟨_, Tryz.underlying15⟩⟩
instance : TEl Tryz.prog 15 1 8 (.pointer none) := ⟨by kernel_rfl, rfl, by decide⟩
instance : TZero Tryz.prog 15 [.pointer none] := ⟨.pointer none, by kernel_rfl, rfl⟩
instance : TOne Tryz.prog 16 := ⟨⟨_, Tryz.underlying16, rfl⟩, by kernel_rfl⟩
instance : TPtr Tryz.prog 16 := ⟨⟨_, Tryz.underlying16⟩⟩
instance : TEl Tryz.prog 16 1 8 (.pointer none) := ⟨by kernel_rfl, rfl, by decide⟩
instance : TZero Tryz.prog 16 [.pointer none] := ⟨.pointer none, by kernel_rfl, rfl⟩
instance : TOne Tryz.prog 17 := ⟨⟨_, Tryz.underlying17, rfl⟩, by kernel_rfl⟩
instance : TPtr Tryz.prog 17 := ⟨⟨_, Tryz.underlying17⟩⟩
instance : TEl Tryz.prog 17 1 8 (.pointer none) := ⟨by kernel_rfl, rfl, by decide⟩
instance : TZero Tryz.prog 17 [.pointer none] := ⟨.pointer none, by kernel_rfl, rfl⟩
instance : TRow Tryz.prog 18 1 := ⟨⟨_, Tryz.underlying18, rfl⟩, by kernel_rfl⟩
instance : TFld Tryz.prog 18 0 0 := ⟨_, _, 0, Tryz.underlying18, rfl, rfl, by kernel_rfl⟩
instance : TEl Tryz.prog 18 1 8 (.agg #[.pointer none]) := ⟨by kernel_rfl, rfl, by decide⟩
instance : TZero Tryz.prog 18 [.pointer none] := ⟨.agg #[.pointer none], by kernel_rfl, rfl⟩
instance : TRow Tryz.prog 19 1 := ⟨⟨_, Tryz.underlying19, rfl⟩, by kernel_rfl⟩
instance : TFld Tryz.prog 19 0 0 := ⟨_, _, 0, Tryz.underlying19, rfl, rfl, by kernel_rfl⟩
instance : TEl Tryz.prog 19 1 8 (.agg #[.pointer none]) := ⟨by kernel_rfl, rfl, by decide⟩
instance : TZero Tryz.prog 19 [.pointer none] := ⟨.agg #[.pointer none], by kernel_rfl, rfl⟩
instance : TOne Tryz.prog 21 := ⟨⟨_, Tryz.underlying21, rfl⟩, by kernel_rfl⟩
instance : TEl Tryz.prog 21 1 4 (.int .i32 0) := ⟨by kernel_rfl, rfl, by decide⟩
instance : TZero Tryz.prog 21 [.int .i32 0] := ⟨.int .i32 0, by kernel_rfl, rfl⟩
instance : TRow Tryz.prog 22 2 := ⟨⟨_, Tryz.underlying22, rfl⟩, by kernel_rfl⟩
instance : TFld Tryz.prog 22 0 0 := ⟨_, _, 0, Tryz.underlying22, rfl, rfl, by kernel_rfl⟩
instance : TFld Tryz.prog 22 1 1 := ⟨_, _, 0, Tryz.underlying22, rfl, rfl, by kernel_rfl⟩
instance : TEq Tryz.prog 22 [0, 0] := ⟨by kernel_rfl, by kernel_rfl, _, Tryz.underlying22⟩
instance : TEl Tryz.prog 22 2 16 (.agg #[.int .i64 0, .int .i64 0]) := ⟨by kernel_rfl, rfl, by decide⟩
instance : TZero Tryz.prog 22 [.int .i64 0, .int .i64 0] := ⟨.agg #[.int .i64 0, .int .i64 0], by kernel_rfl, rfl⟩
instance : TRow Tryz.prog 23 2 := ⟨⟨_, Tryz.underlying23, rfl⟩, by kernel_rfl⟩
instance : TFld Tryz.prog 23 0 0 := ⟨_, _, 0, Tryz.underlying23, rfl, rfl, by kernel_rfl⟩
instance : TFld Tryz.prog 23 1 1 := ⟨_, _, 0, Tryz.underlying23, rfl, rfl, by kernel_rfl⟩
instance : TEq Tryz.prog 23 [0, 0] := ⟨by kernel_rfl, by kernel_rfl, _, Tryz.underlying23⟩
instance : TEl Tryz.prog 23 2 16 (.agg #[.int .i64 0, .int .i64 0]) := ⟨by kernel_rfl, rfl, by decide⟩
instance : TZero Tryz.prog 23 [.int .i64 0, .int .i64 0] := ⟨.agg #[.int .i64 0, .int .i64 0], by kernel_rfl, rfl⟩
instance : TOne Tryz.prog 24 := ⟨⟨_, Tryz.underlying24, rfl⟩, by kernel_rfl⟩
instance : TSl Tryz.prog 24 70 3 := ⟨Tryz.underlying24, by kernel_rfl⟩
instance : TEl Tryz.prog 24 1 24 (.slice none 0 0) := ⟨by kernel_rfl, rfl, by decide⟩
instance : TZero Tryz.prog 24 [.slice none 0 0] := ⟨.slice none 0 0, by kernel_rfl, rfl⟩
instance : TRow Tryz.prog 25 1 := ⟨⟨_, Tryz.underlying25, rfl⟩, by kernel_rfl⟩
instance : TFld Tryz.prog 25 0 0 := ⟨_, _, 0, Tryz.underlying25, rfl, rfl, by kernel_rfl⟩
instance : TEl Tryz.prog 25 1 24 (.agg #[.slice none 0 0]) := ⟨by kernel_rfl, rfl, by decide⟩
instance : TZero Tryz.prog 25 [.slice none 0 0] := ⟨.agg #[.slice none 0 0], by kernel_rfl, rfl⟩
instance : TRow Tryz.prog 26 1 := ⟨⟨_, Tryz.underlying26, rfl⟩, by kernel_rfl⟩
instance : TFld Tryz.prog 26 0 0 := ⟨_, _, 0, Tryz.underlying26, rfl, rfl, by kernel_rfl⟩
instance : TEl Tryz.prog 26 1 24 (.agg #[.slice none 0 0]) := ⟨by kernel_rfl, rfl, by decide⟩
instance : TZero Tryz.prog 26 [.slice none 0 0] := ⟨.agg #[.slice none 0 0], by kernel_rfl, rfl⟩
instance : TRow Tryz.prog 27 11 := ⟨⟨_, Tryz.underlying27, rfl⟩, by kernel_rfl⟩
instance : TFld Tryz.prog 27 0 0 := ⟨_, _, 0, Tryz.underlying27, rfl, rfl, by kernel_rfl⟩
instance : TFld Tryz.prog 27 1 1 := ⟨_, _, 0, Tryz.underlying27, rfl, rfl, by kernel_rfl⟩
instance : TFld Tryz.prog 27 2 2 := ⟨_, _, 0, Tryz.underlying27, rfl, rfl, by kernel_rfl⟩
instance : TFld Tryz.prog 27 3 3 := ⟨_, _, 0, Tryz.underlying27, rfl, rfl, by kernel_rfl⟩
instance : TFld Tryz.prog 27 4 4 := ⟨_, _, 0, Tryz.underlying27, rfl, rfl, by kernel_rfl⟩
instance : TFld Tryz.prog 27 5 5 := ⟨_, _, 1, Tryz.underlying27, rfl, rfl, by kernel_rfl⟩
instance : TFld Tryz.prog 27 6 7 := ⟨_, _, 0, Tryz.underlying27, rfl, rfl, by kernel_rfl⟩
instance : TFld Tryz.prog 27 7 8 := ⟨_, _, 0, Tryz.underlying27, rfl, rfl, by kernel_rfl⟩
instance : TFld Tryz.prog 27 8 9 := ⟨_, _, 0, Tryz.underlying27, rfl, rfl, by kernel_rfl⟩
instance : TFld Tryz.prog 27 9 10 := ⟨_, _, 0, Tryz.underlying27, rfl, rfl, by kernel_rfl⟩
instance : TEl Tryz.prog 27 11 112 (.agg #[.int .i64 0, .int .i64 0, .int .i64 0, .int .i64 0, .string ⟨#[]⟩, .int .i64 0, .int .i64 0, .slice none 0 0, .int .i64 0, .int .i64 0, .bool false]) := ⟨by kernel_rfl, rfl, by decide⟩
instance : TZero Tryz.prog 27 [.int .i64 0, .int .i64 0, .int .i64 0, .int .i64 0, .string ⟨#[]⟩, .int .i64 0, .int .i64 0, .slice none 0 0, .int .i64 0, .int .i64 0, .bool false] := ⟨.agg #[.int .i64 0, .int .i64 0, .int .i64 0, .int .i64 0, .string ⟨#[]⟩, .int .i64 0, .int .i64 0, .slice none 0 0, .int .i64 0, .int .i64 0, .bool false], by kernel_rfl, rfl⟩
instance : TRow Tryz.prog 28 11 := ⟨⟨_, Tryz.underlying28, rfl⟩, by kernel_rfl⟩
instance : TFld Tryz.prog 28 0 0 := ⟨_, _, 0, Tryz.underlying28, rfl, rfl, by kernel_rfl⟩
instance : TFld Tryz.prog 28 1 1 := ⟨_, _, 0, Tryz.underlying28, rfl, rfl, by kernel_rfl⟩
instance : TFld Tryz.prog 28 2 2 := ⟨_, _, 0, Tryz.underlying28, rfl, rfl, by kernel_rfl⟩
instance : TFld Tryz.prog 28 3 3 := ⟨_, _, 0, Tryz.underlying28, rfl, rfl, by kernel_rfl⟩
instance : TFld Tryz.prog 28 4 4 := ⟨_, _, 0, Tryz.underlying28, rfl, rfl, by kernel_rfl⟩
instance : TFld Tryz.prog 28 5 5 := ⟨_, _, 1, Tryz.underlying28, rfl, rfl, by kernel_rfl⟩
instance : TFld Tryz.prog 28 6 7 := ⟨_, _, 0, Tryz.underlying28, rfl, rfl, by kernel_rfl⟩
instance : TFld Tryz.prog 28 7 8 := ⟨_, _, 0, Tryz.underlying28, rfl, rfl, by kernel_rfl⟩
instance : TFld Tryz.prog 28 8 9 := ⟨_, _, 0, Tryz.underlying28, rfl, rfl, by kernel_rfl⟩
instance : TFld Tryz.prog 28 9 10 := ⟨_, _, 0, Tryz.underlying28, rfl, rfl, by kernel_rfl⟩
instance : TEl Tryz.prog 28 11 112 (.agg #[.int .i64 0, .int .i64 0, .int .i64 0, .int .i64 0, .string ⟨#[]⟩, .int .i64 0, .int .i64 0, .slice none 0 0, .int .i64 0, .int .i64 0, .bool false]) := ⟨by kernel_rfl, rfl, by decide⟩
instance : TZero Tryz.prog 28 [.int .i64 0, .int .i64 0, .int .i64 0, .int .i64 0, .string ⟨#[]⟩, .int .i64 0, .int .i64 0, .slice none 0 0, .int .i64 0, .int .i64 0, .bool false] := ⟨.agg #[.int .i64 0, .int .i64 0, .int .i64 0, .int .i64 0, .string ⟨#[]⟩, .int .i64 0, .int .i64 0, .slice none 0 0, .int .i64 0, .int .i64 0, .bool false], by kernel_rfl, rfl⟩
instance : TOne Tryz.prog 34 := ⟨⟨_, Tryz.underlying34, rfl⟩, by kernel_rfl⟩
instance : TSl Tryz.prog 34 5 1 := ⟨Tryz.underlying34, by kernel_rfl⟩
instance : TEl Tryz.prog 34 1 24 (.slice none 0 0) := ⟨by kernel_rfl, rfl, by decide⟩
instance : TZero Tryz.prog 34 [.slice none 0 0] := ⟨.slice none 0 0, by kernel_rfl, rfl⟩
instance : TOne Tryz.prog 44 := ⟨⟨_, Tryz.underlying44, rfl⟩, by kernel_rfl⟩
instance : TSl Tryz.prog 44 9 1 := ⟨Tryz.underlying44, by kernel_rfl⟩
instance : TEl Tryz.prog 44 1 24 (.slice none 0 0) := ⟨by kernel_rfl, rfl, by decide⟩
instance : TZero Tryz.prog 44 [.slice none 0 0] := ⟨.slice none 0 0, by kernel_rfl, rfl⟩
instance : TOne Tryz.prog 57 := ⟨⟨_, Tryz.underlying57, rfl⟩, by kernel_rfl⟩
instance : TPtr Tryz.prog 57 := ⟨⟨_, Tryz.underlying57⟩⟩
instance : TEl Tryz.prog 57 1 8 (.pointer none) := ⟨by kernel_rfl, rfl, by decide⟩
instance : TZero Tryz.prog 57 [.pointer none] := ⟨.pointer none, by kernel_rfl, rfl⟩
instance : TRow Tryz.prog 69 3 := ⟨⟨_, Tryz.underlying69, rfl⟩, by kernel_rfl⟩
instance : TFld Tryz.prog 69 0 0 := ⟨_, _, 0, Tryz.underlying69, rfl, rfl, by kernel_rfl⟩
instance : TFld Tryz.prog 69 1 1 := ⟨_, _, 0, Tryz.underlying69, rfl, rfl, by kernel_rfl⟩
instance : TFld Tryz.prog 69 2 2 := ⟨_, _, 0, Tryz.underlying69, rfl, rfl, by kernel_rfl⟩
instance : TEq Tryz.prog 69 [0, 0, 0] := ⟨by kernel_rfl, by kernel_rfl, _, Tryz.underlying69⟩
instance : TEl Tryz.prog 69 3 24 (.agg #[.int .i64 0, .int .i64 0, .int .i64 0]) := ⟨by kernel_rfl, rfl, by decide⟩
instance : TZero Tryz.prog 69 [.int .i64 0, .int .i64 0, .int .i64 0] := ⟨.agg #[.int .i64 0, .int .i64 0, .int .i64 0], by kernel_rfl, rfl⟩
instance : TRow Tryz.prog 70 3 := ⟨⟨_, Tryz.underlying70, rfl⟩, by kernel_rfl⟩
instance : TFld Tryz.prog 70 0 0 := ⟨_, _, 0, Tryz.underlying70, rfl, rfl, by kernel_rfl⟩
instance : TFld Tryz.prog 70 1 1 := ⟨_, _, 0, Tryz.underlying70, rfl, rfl, by kernel_rfl⟩
instance : TFld Tryz.prog 70 2 2 := ⟨_, _, 0, Tryz.underlying70, rfl, rfl, by kernel_rfl⟩
instance : TEq Tryz.prog 70 [0, 0, 0] := ⟨by kernel_rfl, by kernel_rfl, _, Tryz.underlying70⟩
instance : TEl Tryz.prog 70 3 24 (.agg #[.int .i64 0, .int .i64 0, .int .i64 0]) := ⟨by kernel_rfl, rfl, by decide⟩
instance : TZero Tryz.prog 70 [.int .i64 0, .int .i64 0, .int .i64 0] := ⟨.agg #[.int .i64 0, .int .i64 0, .int .i64 0], by kernel_rfl, rfl⟩
instance : TRow Tryz.prog 81 12 := ⟨⟨_, Tryz.underlying81, rfl⟩, by kernel_rfl⟩
instance : TFld Tryz.prog 81 0 0 := ⟨_, _, 1, Tryz.underlying81, rfl, rfl, by kernel_rfl⟩
instance : TFld Tryz.prog 81 1 2 := ⟨_, _, 1, Tryz.underlying81, rfl, rfl, by kernel_rfl⟩
instance : TFld Tryz.prog 81 2 4 := ⟨_, _, 1, Tryz.underlying81, rfl, rfl, by kernel_rfl⟩
instance : TFld Tryz.prog 81 3 6 := ⟨_, _, 1, Tryz.underlying81, rfl, rfl, by kernel_rfl⟩
instance : TFld Tryz.prog 81 4 8 := ⟨_, _, 1, Tryz.underlying81, rfl, rfl, by kernel_rfl⟩
instance : TFld Tryz.prog 81 5 10 := ⟨_, _, 1, Tryz.underlying81, rfl, rfl, by kernel_rfl⟩
instance : TEq Tryz.prog 81 [0, 0, 0, 0, 0, 0, 0, 0, 0, 0, 0, 0] := ⟨by kernel_rfl, by kernel_rfl, _, Tryz.underlying81⟩
instance : TEl Tryz.prog 81 12 96 (.agg #[.int .i64 0, .int .i64 0, .int .i64 0, .int .i64 0, .int .i64 0, .int .i64 0, .int .i64 0, .int .i64 0, .int .i64 0, .int .i64 0, .int .i64 0, .int .i64 0]) := ⟨by kernel_rfl, rfl, by decide⟩
instance : TZero Tryz.prog 81 [.int .i64 0, .int .i64 0, .int .i64 0, .int .i64 0, .int .i64 0, .int .i64 0, .int .i64 0, .int .i64 0, .int .i64 0, .int .i64 0, .int .i64 0, .int .i64 0] := ⟨.agg #[.int .i64 0, .int .i64 0, .int .i64 0, .int .i64 0, .int .i64 0, .int .i64 0, .int .i64 0, .int .i64 0, .int .i64 0, .int .i64 0, .int .i64 0, .int .i64 0], by kernel_rfl, rfl⟩
instance : TRow Tryz.prog 82 12 := ⟨⟨_, Tryz.underlying82, rfl⟩, by kernel_rfl⟩
instance : TFld Tryz.prog 82 0 0 := ⟨_, _, 1, Tryz.underlying82, rfl, rfl, by kernel_rfl⟩
instance : TFld Tryz.prog 82 1 2 := ⟨_, _, 1, Tryz.underlying82, rfl, rfl, by kernel_rfl⟩
instance : TFld Tryz.prog 82 2 4 := ⟨_, _, 1, Tryz.underlying82, rfl, rfl, by kernel_rfl⟩
instance : TFld Tryz.prog 82 3 6 := ⟨_, _, 1, Tryz.underlying82, rfl, rfl, by kernel_rfl⟩
instance : TFld Tryz.prog 82 4 8 := ⟨_, _, 1, Tryz.underlying82, rfl, rfl, by kernel_rfl⟩
instance : TFld Tryz.prog 82 5 10 := ⟨_, _, 1, Tryz.underlying82, rfl, rfl, by kernel_rfl⟩
instance : TEq Tryz.prog 82 [0, 0, 0, 0, 0, 0, 0, 0, 0, 0, 0, 0] := ⟨by kernel_rfl, by kernel_rfl, _, Tryz.underlying82⟩
instance : TEl Tryz.prog 82 12 96 (.agg #[.int .i64 0, .int .i64 0, .int .i64 0, .int .i64 0, .int .i64 0, .int .i64 0, .int .i64 0, .int .i64 0, .int .i64 0, .int .i64 0, .int .i64 0, .int .i64 0]) := ⟨by kernel_rfl, rfl, by decide⟩
instance : TZero Tryz.prog 82 [.int .i64 0, .int .i64 0, .int .i64 0, .int .i64 0, .int .i64 0, .int .i64 0, .int .i64 0, .int .i64 0, .int .i64 0, .int .i64 0, .int .i64 0, .int .i64 0] := ⟨.agg #[.int .i64 0, .int .i64 0, .int .i64 0, .int .i64 0, .int .i64 0, .int .i64 0, .int .i64 0, .int .i64 0, .int .i64 0, .int .i64 0, .int .i64 0, .int .i64 0], by kernel_rfl, rfl⟩
instance : TRow Tryz.prog 83 4 := ⟨⟨_, Tryz.underlying83, rfl⟩, by kernel_rfl⟩
instance : TFld Tryz.prog 83 0 0 := ⟨_, _, 0, Tryz.underlying83, rfl, rfl, by kernel_rfl⟩
instance : TFld Tryz.prog 83 1 1 := ⟨_, _, 0, Tryz.underlying83, rfl, rfl, by kernel_rfl⟩
instance : TFld Tryz.prog 83 2 2 := ⟨_, _, 0, Tryz.underlying83, rfl, rfl, by kernel_rfl⟩
instance : TFld Tryz.prog 83 3 3 := ⟨_, _, 0, Tryz.underlying83, rfl, rfl, by kernel_rfl⟩
instance : TEq Tryz.prog 83 [0, 0, 0, 0] := ⟨by kernel_rfl, by kernel_rfl, _, Tryz.underlying83⟩
instance : TEl Tryz.prog 83 4 32 (.agg #[.int .i64 0, .int .i64 0, .int .i64 0, .int .i64 0]) := ⟨by kernel_rfl, rfl, by decide⟩
instance : TZero Tryz.prog 83 [.int .i64 0, .int .i64 0, .int .i64 0, .int .i64 0] := ⟨.agg #[.int .i64 0, .int .i64 0, .int .i64 0, .int .i64 0], by kernel_rfl, rfl⟩
instance : TRow Tryz.prog 84 4 := ⟨⟨_, Tryz.underlying84, rfl⟩, by kernel_rfl⟩
instance : TFld Tryz.prog 84 0 0 := ⟨_, _, 0, Tryz.underlying84, rfl, rfl, by kernel_rfl⟩
instance : TFld Tryz.prog 84 1 1 := ⟨_, _, 0, Tryz.underlying84, rfl, rfl, by kernel_rfl⟩
instance : TFld Tryz.prog 84 2 2 := ⟨_, _, 0, Tryz.underlying84, rfl, rfl, by kernel_rfl⟩
instance : TFld Tryz.prog 84 3 3 := ⟨_, _, 0, Tryz.underlying84, rfl, rfl, by kernel_rfl⟩
instance : TEq Tryz.prog 84 [0, 0, 0, 0] := ⟨by kernel_rfl, by kernel_rfl, _, Tryz.underlying84⟩
instance : TEl Tryz.prog 84 4 32 (.agg #[.int .i64 0, .int .i64 0, .int .i64 0, .int .i64 0]) := ⟨by kernel_rfl, rfl, by decide⟩
instance : TZero Tryz.prog 84 [.int .i64 0, .int .i64 0, .int .i64 0, .int .i64 0] := ⟨.agg #[.int .i64 0, .int .i64 0, .int .i64 0, .int .i64 0], by kernel_rfl, rfl⟩
instance : TRow Tryz.prog 85 60 := ⟨⟨_, Tryz.underlying85, rfl⟩, by kernel_rfl⟩
instance : TFld Tryz.prog 85 0 0 := ⟨_, _, 0, Tryz.underlying85, rfl, rfl, by kernel_rfl⟩
instance : TFld Tryz.prog 85 1 1 := ⟨_, _, 0, Tryz.underlying85, rfl, rfl, by kernel_rfl⟩
instance : TFld Tryz.prog 85 2 2 := ⟨_, _, 0, Tryz.underlying85, rfl, rfl, by kernel_rfl⟩
instance : TFld Tryz.prog 85 3 3 := ⟨_, _, 0, Tryz.underlying85, rfl, rfl, by kernel_rfl⟩
instance : TFld Tryz.prog 85 4 4 := ⟨_, _, 0, Tryz.underlying85, rfl, rfl, by kernel_rfl⟩
instance : TFld Tryz.prog 85 5 5 := ⟨_, _, 0, Tryz.underlying85, rfl, rfl, by kernel_rfl⟩
instance : TFld Tryz.prog 85 6 6 := ⟨_, _, 0, Tryz.underlying85, rfl, rfl, by kernel_rfl⟩
instance : TFld Tryz.prog 85 7 7 := ⟨_, _, 0, Tryz.underlying85, rfl, rfl, by kernel_rfl⟩
instance : TFld Tryz.prog 85 8 8 := ⟨_, _, 0, Tryz.underlying85, rfl, rfl, by kernel_rfl⟩
instance : TFld Tryz.prog 85 9 9 := ⟨_, _, 0, Tryz.underlying85, rfl, rfl, by kernel_rfl⟩
instance : TFld Tryz.prog 85 10 10 := ⟨_, _, 0, Tryz.underlying85, rfl, rfl, by kernel_rfl⟩
instance : TFld Tryz.prog 85 11 11 := ⟨_, _, 1, Tryz.underlying85, rfl, rfl, by kernel_rfl⟩
instance : TFld Tryz.prog 85 12 13 := ⟨_, _, 1, Tryz.underlying85, rfl, rfl, by kernel_rfl⟩
instance : TFld Tryz.prog 85 13 15 := ⟨_, _, 1, Tryz.underlying85, rfl, rfl, by kernel_rfl⟩
instance : TFld Tryz.prog 85 14 17 := ⟨_, _, 1, Tryz.underlying85, rfl, rfl, by kernel_rfl⟩
instance : TFld Tryz.prog 85 15 19 := ⟨_, _, 1, Tryz.underlying85, rfl, rfl, by kernel_rfl⟩
instance : TFld Tryz.prog 85 16 21 := ⟨_, _, 1, Tryz.underlying85, rfl, rfl, by kernel_rfl⟩
instance : TFld Tryz.prog 85 17 23 := ⟨_, _, 1, Tryz.underlying85, rfl, rfl, by kernel_rfl⟩
instance : TFld Tryz.prog 85 18 25 := ⟨_, _, 0, Tryz.underlying85, rfl, rfl, by kernel_rfl⟩
instance : TFld Tryz.prog 85 19 26 := ⟨_, _, 11, Tryz.underlying85, rfl, rfl, by kernel_rfl⟩
instance : TFld Tryz.prog 85 20 38 := ⟨_, _, 11, Tryz.underlying85, rfl, rfl, by kernel_rfl⟩
instance : TFld Tryz.prog 85 21 50 := ⟨_, _, 3, Tryz.underlying85, rfl, rfl, by kernel_rfl⟩
instance : TFld Tryz.prog 85 22 54 := ⟨_, _, 3, Tryz.underlying85, rfl, rfl, by kernel_rfl⟩
instance : TFld Tryz.prog 85 23 58 := ⟨_, _, 0, Tryz.underlying85, rfl, rfl, by kernel_rfl⟩
instance : TFld Tryz.prog 85 24 59 := ⟨_, _, 0, Tryz.underlying85, rfl, rfl, by kernel_rfl⟩
instance : TEq Tryz.prog 85 [0, 0, 0, 0, 0, 0, 1, 1, 0, 0, 0, 0, 0, 0, 0, 0, 0, 0, 0, 0, 0, 0, 0, 0, 0, 0, 0, 0, 0, 0, 0, 0, 0, 0, 0, 0, 0, 0, 0, 0, 0, 0, 0, 0, 0, 0, 0, 0, 0, 0, 0, 0, 0, 0, 0, 0, 0, 0, 0, 0] := ⟨by kernel_rfl, by kernel_rfl, _, Tryz.underlying85⟩
instance : TEl Tryz.prog 85 60 472 (.agg #[.int .i64 0, .int .i64 0, .int .i64 0, .int .i64 0, .int .i64 0, .int .i64 0, .bool false, .bool false, .int .i64 0, .int .i64 0, .int .i64 0, .int .i64 0, .int .i64 0, .int .i64 0, .int .i64 0, .int .i64 0, .int .i64 0, .int .i64 0, .int .i64 0, .int .i64 0, .int .i64 0, .int .i64 0, .int .i64 0, .int .i64 0, .int .i64 0, .int .i64 0, .int .i64 0, .int .i64 0, .int .i64 0, .int .i64 0, .int .i64 0, .int .i64 0, .int .i64 0, .int .i64 0, .int .i64 0, .int .i64 0, .int .i64 0, .int .i64 0, .int .i64 0, .int .i64 0, .int .i64 0, .int .i64 0, .int .i64 0, .int .i64 0, .int .i64 0, .int .i64 0, .int .i64 0, .int .i64 0, .int .i64 0, .int .i64 0, .int .i64 0, .int .i64 0, .int .i64 0, .int .i64 0, .int .i64 0, .int .i64 0, .int .i64 0, .int .i64 0, .int .i64 0, .int .i64 0]) := ⟨by kernel_rfl, rfl, by decide⟩
instance : TZero Tryz.prog 85 [.int .i64 0, .int .i64 0, .int .i64 0, .int .i64 0, .int .i64 0, .int .i64 0, .bool false, .bool false, .int .i64 0, .int .i64 0, .int .i64 0, .int .i64 0, .int .i64 0, .int .i64 0, .int .i64 0, .int .i64 0, .int .i64 0, .int .i64 0, .int .i64 0, .int .i64 0, .int .i64 0, .int .i64 0, .int .i64 0, .int .i64 0, .int .i64 0, .int .i64 0, .int .i64 0, .int .i64 0, .int .i64 0, .int .i64 0, .int .i64 0, .int .i64 0, .int .i64 0, .int .i64 0, .int .i64 0, .int .i64 0, .int .i64 0, .int .i64 0, .int .i64 0, .int .i64 0, .int .i64 0, .int .i64 0, .int .i64 0, .int .i64 0, .int .i64 0, .int .i64 0, .int .i64 0, .int .i64 0, .int .i64 0, .int .i64 0, .int .i64 0, .int .i64 0, .int .i64 0, .int .i64 0, .int .i64 0, .int .i64 0, .int .i64 0, .int .i64 0, .int .i64 0, .int .i64 0] := ⟨.agg #[.int .i64 0, .int .i64 0, .int .i64 0, .int .i64 0, .int .i64 0, .int .i64 0, .bool false, .bool false, .int .i64 0, .int .i64 0, .int .i64 0, .int .i64 0, .int .i64 0, .int .i64 0, .int .i64 0, .int .i64 0, .int .i64 0, .int .i64 0, .int .i64 0, .int .i64 0, .int .i64 0, .int .i64 0, .int .i64 0, .int .i64 0, .int .i64 0, .int .i64 0, .int .i64 0, .int .i64 0, .int .i64 0, .int .i64 0, .int .i64 0, .int .i64 0, .int .i64 0, .int .i64 0, .int .i64 0, .int .i64 0, .int .i64 0, .int .i64 0, .int .i64 0, .int .i64 0, .int .i64 0, .int .i64 0, .int .i64 0, .int .i64 0, .int .i64 0, .int .i64 0, .int .i64 0, .int .i64 0, .int .i64 0, .int .i64 0, .int .i64 0, .int .i64 0, .int .i64 0, .int .i64 0, .int .i64 0, .int .i64 0, .int .i64 0, .int .i64 0, .int .i64 0, .int .i64 0], by kernel_rfl, rfl⟩
instance : TRow Tryz.prog 86 60 := ⟨⟨_, Tryz.underlying86, rfl⟩, by kernel_rfl⟩
instance : TFld Tryz.prog 86 0 0 := ⟨_, _, 0, Tryz.underlying86, rfl, rfl, by kernel_rfl⟩
instance : TFld Tryz.prog 86 1 1 := ⟨_, _, 0, Tryz.underlying86, rfl, rfl, by kernel_rfl⟩
instance : TFld Tryz.prog 86 2 2 := ⟨_, _, 0, Tryz.underlying86, rfl, rfl, by kernel_rfl⟩
instance : TFld Tryz.prog 86 3 3 := ⟨_, _, 0, Tryz.underlying86, rfl, rfl, by kernel_rfl⟩
instance : TFld Tryz.prog 86 4 4 := ⟨_, _, 0, Tryz.underlying86, rfl, rfl, by kernel_rfl⟩
instance : TFld Tryz.prog 86 5 5 := ⟨_, _, 0, Tryz.underlying86, rfl, rfl, by kernel_rfl⟩
instance : TFld Tryz.prog 86 6 6 := ⟨_, _, 0, Tryz.underlying86, rfl, rfl, by kernel_rfl⟩
instance : TFld Tryz.prog 86 7 7 := ⟨_, _, 0, Tryz.underlying86, rfl, rfl, by kernel_rfl⟩
instance : TFld Tryz.prog 86 8 8 := ⟨_, _, 0, Tryz.underlying86, rfl, rfl, by kernel_rfl⟩
instance : TFld Tryz.prog 86 9 9 := ⟨_, _, 0, Tryz.underlying86, rfl, rfl, by kernel_rfl⟩
instance : TFld Tryz.prog 86 10 10 := ⟨_, _, 0, Tryz.underlying86, rfl, rfl, by kernel_rfl⟩
instance : TFld Tryz.prog 86 11 11 := ⟨_, _, 1, Tryz.underlying86, rfl, rfl, by kernel_rfl⟩
instance : TFld Tryz.prog 86 12 13 := ⟨_, _, 1, Tryz.underlying86, rfl, rfl, by kernel_rfl⟩
instance : TFld Tryz.prog 86 13 15 := ⟨_, _, 1, Tryz.underlying86, rfl, rfl, by kernel_rfl⟩
instance : TFld Tryz.prog 86 14 17 := ⟨_, _, 1, Tryz.underlying86, rfl, rfl, by kernel_rfl⟩
instance : TFld Tryz.prog 86 15 19 := ⟨_, _, 1, Tryz.underlying86, rfl, rfl, by kernel_rfl⟩
instance : TFld Tryz.prog 86 16 21 := ⟨_, _, 1, Tryz.underlying86, rfl, rfl, by kernel_rfl⟩
instance : TFld Tryz.prog 86 17 23 := ⟨_, _, 1, Tryz.underlying86, rfl, rfl, by kernel_rfl⟩
instance : TFld Tryz.prog 86 18 25 := ⟨_, _, 0, Tryz.underlying86, rfl, rfl, by kernel_rfl⟩
instance : TFld Tryz.prog 86 19 26 := ⟨_, _, 11, Tryz.underlying86, rfl, rfl, by kernel_rfl⟩
instance : TFld Tryz.prog 86 20 38 := ⟨_, _, 11, Tryz.underlying86, rfl, rfl, by kernel_rfl⟩
instance : TFld Tryz.prog 86 21 50 := ⟨_, _, 3, Tryz.underlying86, rfl, rfl, by kernel_rfl⟩
instance : TFld Tryz.prog 86 22 54 := ⟨_, _, 3, Tryz.underlying86, rfl, rfl, by kernel_rfl⟩
instance : TFld Tryz.prog 86 23 58 := ⟨_, _, 0, Tryz.underlying86, rfl, rfl, by kernel_rfl⟩
instance : TFld Tryz.prog 86 24 59 := ⟨_, _, 0, Tryz.underlying86, rfl, rfl, by kernel_rfl⟩
instance : TEq Tryz.prog 86 [0, 0, 0, 0, 0, 0, 1, 1, 0, 0, 0, 0, 0, 0, 0, 0, 0, 0, 0, 0, 0, 0, 0, 0, 0, 0, 0, 0, 0, 0, 0, 0, 0, 0, 0, 0, 0, 0, 0, 0, 0, 0, 0, 0, 0, 0, 0, 0, 0, 0, 0, 0, 0, 0, 0, 0, 0, 0, 0, 0] := ⟨by kernel_rfl, by kernel_rfl, _, Tryz.underlying86⟩
instance : TEl Tryz.prog 86 60 472 (.agg #[.int .i64 0, .int .i64 0, .int .i64 0, .int .i64 0, .int .i64 0, .int .i64 0, .bool false, .bool false, .int .i64 0, .int .i64 0, .int .i64 0, .int .i64 0, .int .i64 0, .int .i64 0, .int .i64 0, .int .i64 0, .int .i64 0, .int .i64 0, .int .i64 0, .int .i64 0, .int .i64 0, .int .i64 0, .int .i64 0, .int .i64 0, .int .i64 0, .int .i64 0, .int .i64 0, .int .i64 0, .int .i64 0, .int .i64 0, .int .i64 0, .int .i64 0, .int .i64 0, .int .i64 0, .int .i64 0, .int .i64 0, .int .i64 0, .int .i64 0, .int .i64 0, .int .i64 0, .int .i64 0, .int .i64 0, .int .i64 0, .int .i64 0, .int .i64 0, .int .i64 0, .int .i64 0, .int .i64 0, .int .i64 0, .int .i64 0, .int .i64 0, .int .i64 0, .int .i64 0, .int .i64 0, .int .i64 0, .int .i64 0, .int .i64 0, .int .i64 0, .int .i64 0, .int .i64 0]) := ⟨by kernel_rfl, rfl, by decide⟩
instance : TZero Tryz.prog 86 [.int .i64 0, .int .i64 0, .int .i64 0, .int .i64 0, .int .i64 0, .int .i64 0, .bool false, .bool false, .int .i64 0, .int .i64 0, .int .i64 0, .int .i64 0, .int .i64 0, .int .i64 0, .int .i64 0, .int .i64 0, .int .i64 0, .int .i64 0, .int .i64 0, .int .i64 0, .int .i64 0, .int .i64 0, .int .i64 0, .int .i64 0, .int .i64 0, .int .i64 0, .int .i64 0, .int .i64 0, .int .i64 0, .int .i64 0, .int .i64 0, .int .i64 0, .int .i64 0, .int .i64 0, .int .i64 0, .int .i64 0, .int .i64 0, .int .i64 0, .int .i64 0, .int .i64 0, .int .i64 0, .int .i64 0, .int .i64 0, .int .i64 0, .int .i64 0, .int .i64 0, .int .i64 0, .int .i64 0, .int .i64 0, .int .i64 0, .int .i64 0, .int .i64 0, .int .i64 0, .int .i64 0, .int .i64 0, .int .i64 0, .int .i64 0, .int .i64 0, .int .i64 0, .int .i64 0] := ⟨.agg #[.int .i64 0, .int .i64 0, .int .i64 0, .int .i64 0, .int .i64 0, .int .i64 0, .bool false, .bool false, .int .i64 0, .int .i64 0, .int .i64 0, .int .i64 0, .int .i64 0, .int .i64 0, .int .i64 0, .int .i64 0, .int .i64 0, .int .i64 0, .int .i64 0, .int .i64 0, .int .i64 0, .int .i64 0, .int .i64 0, .int .i64 0, .int .i64 0, .int .i64 0, .int .i64 0, .int .i64 0, .int .i64 0, .int .i64 0, .int .i64 0, .int .i64 0, .int .i64 0, .int .i64 0, .int .i64 0, .int .i64 0, .int .i64 0, .int .i64 0, .int .i64 0, .int .i64 0, .int .i64 0, .int .i64 0, .int .i64 0, .int .i64 0, .int .i64 0, .int .i64 0, .int .i64 0, .int .i64 0, .int .i64 0, .int .i64 0, .int .i64 0, .int .i64 0, .int .i64 0, .int .i64 0, .int .i64 0, .int .i64 0, .int .i64 0, .int .i64 0, .int .i64 0, .int .i64 0], by kernel_rfl, rfl⟩
instance : TOne Tryz.prog 89 := ⟨⟨_, Tryz.underlying89, rfl⟩, by kernel_rfl⟩
instance : TPtr Tryz.prog 89 := ⟨⟨_, Tryz.underlying89⟩⟩
instance : TEl Tryz.prog 89 1 8 (.pointer none) := ⟨by kernel_rfl, rfl, by decide⟩
instance : TZero Tryz.prog 89 [.pointer none] := ⟨.pointer none, by kernel_rfl, rfl⟩
instance : TRow Tryz.prog 90 2 := ⟨⟨_, Tryz.underlying90, rfl⟩, by kernel_rfl⟩
instance : TFld Tryz.prog 90 0 0 := ⟨_, _, 0, Tryz.underlying90, rfl, rfl, by kernel_rfl⟩
instance : TFld Tryz.prog 90 1 1 := ⟨_, _, 0, Tryz.underlying90, rfl, rfl, by kernel_rfl⟩
instance : TEl Tryz.prog 90 2 32 (.agg #[.pointer none, .slice none 0 0]) := ⟨by kernel_rfl, rfl, by decide⟩
instance : TZero Tryz.prog 90 [.pointer none, .slice none 0 0] := ⟨.agg #[.pointer none, .slice none 0 0], by kernel_rfl, rfl⟩
instance : TRow Tryz.prog 91 2 := ⟨⟨_, Tryz.underlying91, rfl⟩, by kernel_rfl⟩
instance : TFld Tryz.prog 91 0 0 := ⟨_, _, 0, Tryz.underlying91, rfl, rfl, by kernel_rfl⟩
instance : TFld Tryz.prog 91 1 1 := ⟨_, _, 0, Tryz.underlying91, rfl, rfl, by kernel_rfl⟩
instance : TEl Tryz.prog 91 2 32 (.agg #[.pointer none, .slice none 0 0]) := ⟨by kernel_rfl, rfl, by decide⟩
instance : TZero Tryz.prog 91 [.pointer none, .slice none 0 0] := ⟨.agg #[.pointer none, .slice none 0 0], by kernel_rfl, rfl⟩
instance : TRow Tryz.prog 99 3 := ⟨⟨_, Tryz.underlying99, rfl⟩, by kernel_rfl⟩
instance : TFld Tryz.prog 99 0 0 := ⟨_, _, 0, Tryz.underlying99, rfl, rfl, by kernel_rfl⟩
instance : TFld Tryz.prog 99 1 1 := ⟨_, _, 0, Tryz.underlying99, rfl, rfl, by kernel_rfl⟩
instance : TFld Tryz.prog 99 2 2 := ⟨_, _, 0, Tryz.underlying99, rfl, rfl, by kernel_rfl⟩
instance : TEl Tryz.prog 99 3 40 (.agg #[.slice none 0 0, .int .i64 0, .int .i64 0]) := ⟨by kernel_rfl, rfl, by decide⟩
instance : TZero Tryz.prog 99 [.slice none 0 0, .int .i64 0, .int .i64 0] := ⟨.agg #[.slice none 0 0, .int .i64 0, .int .i64 0], by kernel_rfl, rfl⟩
instance : TRow Tryz.prog 100 3 := ⟨⟨_, Tryz.underlying100, rfl⟩, by kernel_rfl⟩
instance : TFld Tryz.prog 100 0 0 := ⟨_, _, 0, Tryz.underlying100, rfl, rfl, by kernel_rfl⟩
instance : TFld Tryz.prog 100 1 1 := ⟨_, _, 0, Tryz.underlying100, rfl, rfl, by kernel_rfl⟩
instance : TFld Tryz.prog 100 2 2 := ⟨_, _, 0, Tryz.underlying100, rfl, rfl, by kernel_rfl⟩
instance : TEl Tryz.prog 100 3 40 (.agg #[.slice none 0 0, .int .i64 0, .int .i64 0]) := ⟨by kernel_rfl, rfl, by decide⟩
instance : TZero Tryz.prog 100 [.slice none 0 0, .int .i64 0, .int .i64 0] := ⟨.agg #[.slice none 0 0, .int .i64 0, .int .i64 0], by kernel_rfl, rfl⟩
instance : TOne Tryz.prog 101 := ⟨⟨_, Tryz.underlying101, rfl⟩, by kernel_rfl⟩
instance : TSl Tryz.prog 101 3 1 := ⟨Tryz.underlying101, by kernel_rfl⟩
instance : TEl Tryz.prog 101 1 24 (.slice none 0 0) := ⟨by kernel_rfl, rfl, by decide⟩
instance : TZero Tryz.prog 101 [.slice none 0 0] := ⟨.slice none 0 0, by kernel_rfl, rfl⟩
instance : TOne Tryz.prog 106 := ⟨⟨_, Tryz.underlying106, rfl⟩, by kernel_rfl⟩
instance : TPtr Tryz.prog 106 := ⟨⟨_, Tryz.underlying106⟩⟩
instance : TEl Tryz.prog 106 1 8 (.pointer none) := ⟨by kernel_rfl, rfl, by decide⟩
instance : TZero Tryz.prog 106 [.pointer none] := ⟨.pointer none, by kernel_rfl, rfl⟩
instance : TOne Tryz.prog 107 := ⟨⟨_, Tryz.underlying107, rfl⟩, by kernel_rfl⟩
instance : TPtr Tryz.prog 107 := ⟨⟨_, Tryz.underlying107⟩⟩
instance : TEl Tryz.prog 107 1 8 (.pointer none) := ⟨by kernel_rfl, rfl, by decide⟩
instance : TZero Tryz.prog 107 [.pointer none] := ⟨.pointer none, by kernel_rfl, rfl⟩
instance : TOne Tryz.prog 112 := ⟨⟨_, Tryz.underlying112, rfl⟩, by kernel_rfl⟩
instance : TPtr Tryz.prog 112 := ⟨⟨_, Tryz.underlying112⟩⟩
instance : TEl Tryz.prog 112 1 8 (.pointer none) := ⟨by kernel_rfl, rfl, by decide⟩
instance : TZero Tryz.prog 112 [.pointer none] := ⟨.pointer none, by kernel_rfl, rfl⟩
instance : TOne Tryz.prog 120 := ⟨⟨_, Tryz.underlying120, rfl⟩, by kernel_rfl⟩
instance : TEl Tryz.prog 120 1 8 (.int .u64 0) := ⟨by kernel_rfl, rfl, by decide⟩
instance : TZero Tryz.prog 120 [.int .u64 0] := ⟨.int .u64 0, by kernel_rfl, rfl⟩
instance : TOne Tryz.prog 122 := ⟨⟨_, Tryz.underlying122, rfl⟩, by kernel_rfl⟩
instance : TPtr Tryz.prog 122 := ⟨⟨_, Tryz.underlying122⟩⟩
instance : TEl Tryz.prog 122 1 8 (.pointer none) := ⟨by kernel_rfl, rfl, by decide⟩
instance : TZero Tryz.prog 122 [.pointer none] := ⟨.pointer none, by kernel_rfl, rfl⟩
instance : TOne Tryz.prog 133 := ⟨⟨_, Tryz.underlying133, rfl⟩, by kernel_rfl⟩
instance : TEl Tryz.prog 133 1 8 (.int .i64 0) := ⟨by kernel_rfl, rfl, by decide⟩
instance : TZero Tryz.prog 133 [.int .i64 0] := ⟨.int .i64 0, by kernel_rfl, rfl⟩
instance : TOne Tryz.prog 136 := ⟨⟨_, Tryz.underlying136, rfl⟩, by kernel_rfl⟩
instance : TPtr Tryz.prog 136 := ⟨⟨_, Tryz.underlying136⟩⟩
instance : TEl Tryz.prog 136 1 8 (.pointer none) := ⟨by kernel_rfl, rfl, by decide⟩
instance : TZero Tryz.prog 136 [.pointer none] := ⟨.pointer none, by kernel_rfl, rfl⟩
instance : TRow Tryz.prog 140 24 := ⟨⟨_, Tryz.underlying140, rfl⟩, by kernel_rfl⟩
instance : TEl Tryz.prog 140 24 24 (.agg #[.int .u8 0, .int .u8 0, .int .u8 0, .int .u8 0, .int .u8 0, .int .u8 0, .int .u8 0, .int .u8 0, .int .u8 0, .int .u8 0, .int .u8 0, .int .u8 0, .int .u8 0, .int .u8 0, .int .u8 0, .int .u8 0, .int .u8 0, .int .u8 0, .int .u8 0, .int .u8 0, .int .u8 0, .int .u8 0, .int .u8 0, .int .u8 0]) := ⟨by kernel_rfl, rfl, by decide⟩
instance : TZero Tryz.prog 140 [.int .u8 0, .int .u8 0, .int .u8 0, .int .u8 0, .int .u8 0, .int .u8 0, .int .u8 0, .int .u8 0, .int .u8 0, .int .u8 0, .int .u8 0, .int .u8 0, .int .u8 0, .int .u8 0, .int .u8 0, .int .u8 0, .int .u8 0, .int .u8 0, .int .u8 0, .int .u8 0, .int .u8 0, .int .u8 0, .int .u8 0, .int .u8 0] := ⟨.agg #[.int .u8 0, .int .u8 0, .int .u8 0, .int .u8 0, .int .u8 0, .int .u8 0, .int .u8 0, .int .u8 0, .int .u8 0, .int .u8 0, .int .u8 0, .int .u8 0, .int .u8 0, .int .u8 0, .int .u8 0, .int .u8 0, .int .u8 0, .int .u8 0, .int .u8 0, .int .u8 0, .int .u8 0, .int .u8 0, .int .u8 0, .int .u8 0], by kernel_rfl, rfl⟩
instance : TOne Tryz.prog 141 := ⟨⟨_, Tryz.underlying141, rfl⟩, by kernel_rfl⟩
instance : TEl Tryz.prog 141 1 8 (.int .u64 0) := ⟨by kernel_rfl, rfl, by decide⟩
instance : TZero Tryz.prog 141 [.int .u64 0] := ⟨.int .u64 0, by kernel_rfl, rfl⟩
instance : TRow Tryz.prog 149 3 := ⟨⟨_, Tryz.underlying149, rfl⟩, by kernel_rfl⟩
instance : TFld Tryz.prog 149 0 0 := ⟨_, _, 0, Tryz.underlying149, rfl, rfl, by kernel_rfl⟩
instance : TFld Tryz.prog 149 1 1 := ⟨_, _, 0, Tryz.underlying149, rfl, rfl, by kernel_rfl⟩
instance : TFld Tryz.prog 149 2 2 := ⟨_, _, 0, Tryz.underlying149, rfl, rfl, by kernel_rfl⟩
instance : TRow Tryz.prog 150 3 := ⟨⟨_, Tryz.underlying150, rfl⟩, by kernel_rfl⟩
instance : TFld Tryz.prog 150 0 0 := ⟨_, _, 0, Tryz.underlying150, rfl, rfl, by kernel_rfl⟩
instance : TFld Tryz.prog 150 1 1 := ⟨_, _, 0, Tryz.underlying150, rfl, rfl, by kernel_rfl⟩
instance : TFld Tryz.prog 150 2 2 := ⟨_, _, 0, Tryz.underlying150, rfl, rfl, by kernel_rfl⟩
instance : TRow Tryz.prog 152 20 := ⟨⟨_, Tryz.underlying152, rfl⟩, by kernel_rfl⟩
instance : TEl Tryz.prog 152 20 160 (.agg #[.int .u64 0, .int .u64 0, .int .u64 0, .int .u64 0, .int .u64 0, .int .u64 0, .int .u64 0, .int .u64 0, .int .u64 0, .int .u64 0, .int .u64 0, .int .u64 0, .int .u64 0, .int .u64 0, .int .u64 0, .int .u64 0, .int .u64 0, .int .u64 0, .int .u64 0, .int .u64 0]) := ⟨by kernel_rfl, rfl, by decide⟩
instance : TZero Tryz.prog 152 [.int .u64 0, .int .u64 0, .int .u64 0, .int .u64 0, .int .u64 0, .int .u64 0, .int .u64 0, .int .u64 0, .int .u64 0, .int .u64 0, .int .u64 0, .int .u64 0, .int .u64 0, .int .u64 0, .int .u64 0, .int .u64 0, .int .u64 0, .int .u64 0, .int .u64 0, .int .u64 0] := ⟨.agg #[.int .u64 0, .int .u64 0, .int .u64 0, .int .u64 0, .int .u64 0, .int .u64 0, .int .u64 0, .int .u64 0, .int .u64 0, .int .u64 0, .int .u64 0, .int .u64 0, .int .u64 0, .int .u64 0, .int .u64 0, .int .u64 0, .int .u64 0, .int .u64 0, .int .u64 0, .int .u64 0], by kernel_rfl, rfl⟩
instance : TOne Tryz.prog 153 := ⟨⟨_, Tryz.underlying153, rfl⟩, by kernel_rfl⟩
instance : TEl Tryz.prog 153 1 4 (.int .u32 0) := ⟨by kernel_rfl, rfl, by decide⟩
instance : TZero Tryz.prog 153 [.int .u32 0] := ⟨.int .u32 0, by kernel_rfl, rfl⟩
instance : TRow Tryz.prog 154 65 := ⟨⟨_, Tryz.underlying154, rfl⟩, by kernel_rfl⟩
instance : TEl Tryz.prog 154 65 65 (.agg #[.int .u8 0, .int .u8 0, .int .u8 0, .int .u8 0, .int .u8 0, .int .u8 0, .int .u8 0, .int .u8 0, .int .u8 0, .int .u8 0, .int .u8 0, .int .u8 0, .int .u8 0, .int .u8 0, .int .u8 0, .int .u8 0, .int .u8 0, .int .u8 0, .int .u8 0, .int .u8 0, .int .u8 0, .int .u8 0, .int .u8 0, .int .u8 0, .int .u8 0, .int .u8 0, .int .u8 0, .int .u8 0, .int .u8 0, .int .u8 0, .int .u8 0, .int .u8 0, .int .u8 0, .int .u8 0, .int .u8 0, .int .u8 0, .int .u8 0, .int .u8 0, .int .u8 0, .int .u8 0, .int .u8 0, .int .u8 0, .int .u8 0, .int .u8 0, .int .u8 0, .int .u8 0, .int .u8 0, .int .u8 0, .int .u8 0, .int .u8 0, .int .u8 0, .int .u8 0, .int .u8 0, .int .u8 0, .int .u8 0, .int .u8 0, .int .u8 0, .int .u8 0, .int .u8 0, .int .u8 0, .int .u8 0, .int .u8 0, .int .u8 0, .int .u8 0, .int .u8 0]) := ⟨by kernel_rfl, rfl, by decide⟩
instance : TZero Tryz.prog 154 [.int .u8 0, .int .u8 0, .int .u8 0, .int .u8 0, .int .u8 0, .int .u8 0, .int .u8 0, .int .u8 0, .int .u8 0, .int .u8 0, .int .u8 0, .int .u8 0, .int .u8 0, .int .u8 0, .int .u8 0, .int .u8 0, .int .u8 0, .int .u8 0, .int .u8 0, .int .u8 0, .int .u8 0, .int .u8 0, .int .u8 0, .int .u8 0, .int .u8 0, .int .u8 0, .int .u8 0, .int .u8 0, .int .u8 0, .int .u8 0, .int .u8 0, .int .u8 0, .int .u8 0, .int .u8 0, .int .u8 0, .int .u8 0, .int .u8 0, .int .u8 0, .int .u8 0, .int .u8 0, .int .u8 0, .int .u8 0, .int .u8 0, .int .u8 0, .int .u8 0, .int .u8 0, .int .u8 0, .int .u8 0, .int .u8 0, .int .u8 0, .int .u8 0, .int .u8 0, .int .u8 0, .int .u8 0, .int .u8 0, .int .u8 0, .int .u8 0, .int .u8 0, .int .u8 0, .int .u8 0, .int .u8 0, .int .u8 0, .int .u8 0, .int .u8 0, .int .u8 0] := ⟨.agg #[.int .u8 0, .int .u8 0, .int .u8 0, .int .u8 0, .int .u8 0, .int .u8 0, .int .u8 0, .int .u8 0, .int .u8 0, .int .u8 0, .int .u8 0, .int .u8 0, .int .u8 0, .int .u8 0, .int .u8 0, .int .u8 0, .int .u8 0, .int .u8 0, .int .u8 0, .int .u8 0, .int .u8 0, .int .u8 0, .int .u8 0, .int .u8 0, .int .u8 0, .int .u8 0, .int .u8 0, .int .u8 0, .int .u8 0, .int .u8 0, .int .u8 0, .int .u8 0, .int .u8 0, .int .u8 0, .int .u8 0, .int .u8 0, .int .u8 0, .int .u8 0, .int .u8 0, .int .u8 0, .int .u8 0, .int .u8 0, .int .u8 0, .int .u8 0, .int .u8 0, .int .u8 0, .int .u8 0, .int .u8 0, .int .u8 0, .int .u8 0, .int .u8 0, .int .u8 0, .int .u8 0, .int .u8 0, .int .u8 0, .int .u8 0, .int .u8 0, .int .u8 0, .int .u8 0, .int .u8 0, .int .u8 0, .int .u8 0, .int .u8 0, .int .u8 0, .int .u8 0], by kernel_rfl, rfl⟩
instance : TRow Tryz.prog 157 2 := ⟨⟨_, Tryz.underlying157, rfl⟩, by kernel_rfl⟩
instance : TFld Tryz.prog 157 0 0 := ⟨_, _, 0, Tryz.underlying157, rfl, rfl, by kernel_rfl⟩
instance : TFld Tryz.prog 157 1 1 := ⟨_, _, 0, Tryz.underlying157, rfl, rfl, by kernel_rfl⟩
instance : TEl Tryz.prog 157 2 2 (.agg #[.int .u8 0, .int .u8 0]) := ⟨by kernel_rfl, rfl, by decide⟩
instance : TZero Tryz.prog 157 [.int .u8 0, .int .u8 0] := ⟨.agg #[.int .u8 0, .int .u8 0], by kernel_rfl, rfl⟩
instance : TRow Tryz.prog 158 2 := ⟨⟨_, Tryz.underlying158, rfl⟩, by kernel_rfl⟩
instance : TFld Tryz.prog 158 0 0 := ⟨_, _, 0, Tryz.underlying158, rfl, rfl, by kernel_rfl⟩
instance : TFld Tryz.prog 158 1 1 := ⟨_, _, 0, Tryz.underlying158, rfl, rfl, by kernel_rfl⟩
instance : TEl Tryz.prog 158 2 2 (.agg #[.int .u8 0, .int .u8 0]) := ⟨by kernel_rfl, rfl, by decide⟩
instance : TZero Tryz.prog 158 [.int .u8 0, .int .u8 0] := ⟨.agg #[.int .u8 0, .int .u8 0], by kernel_rfl, rfl⟩
instance : TRow Tryz.prog 159 32 := ⟨⟨_, Tryz.underlying159, rfl⟩, by kernel_rfl⟩
instance : TEl Tryz.prog 159 32 32 (.agg #[.int .u8 0, .int .u8 0, .int .u8 0, .int .u8 0, .int .u8 0, .int .u8 0, .int .u8 0, .int .u8 0, .int .u8 0, .int .u8 0, .int .u8 0, .int .u8 0, .int .u8 0, .int .u8 0, .int .u8 0, .int .u8 0, .int .u8 0, .int .u8 0, .int .u8 0, .int .u8 0, .int .u8 0, .int .u8 0, .int .u8 0, .int .u8 0, .int .u8 0, .int .u8 0, .int .u8 0, .int .u8 0, .int .u8 0, .int .u8 0, .int .u8 0, .int .u8 0]) := ⟨by kernel_rfl, rfl, by decide⟩
instance : TZero Tryz.prog 159 [.int .u8 0, .int .u8 0, .int .u8 0, .int .u8 0, .int .u8 0, .int .u8 0, .int .u8 0, .int .u8 0, .int .u8 0, .int .u8 0, .int .u8 0, .int .u8 0, .int .u8 0, .int .u8 0, .int .u8 0, .int .u8 0, .int .u8 0, .int .u8 0, .int .u8 0, .int .u8 0, .int .u8 0, .int .u8 0, .int .u8 0, .int .u8 0, .int .u8 0, .int .u8 0, .int .u8 0, .int .u8 0, .int .u8 0, .int .u8 0, .int .u8 0, .int .u8 0] := ⟨.agg #[.int .u8 0, .int .u8 0, .int .u8 0, .int .u8 0, .int .u8 0, .int .u8 0, .int .u8 0, .int .u8 0, .int .u8 0, .int .u8 0, .int .u8 0, .int .u8 0, .int .u8 0, .int .u8 0, .int .u8 0, .int .u8 0, .int .u8 0, .int .u8 0, .int .u8 0, .int .u8 0, .int .u8 0, .int .u8 0, .int .u8 0, .int .u8 0, .int .u8 0, .int .u8 0, .int .u8 0, .int .u8 0, .int .u8 0, .int .u8 0, .int .u8 0, .int .u8 0], by kernel_rfl, rfl⟩
instance : TOne Tryz.prog 163 := ⟨⟨_, Tryz.underlying163, rfl⟩, by kernel_rfl⟩
instance : TPtr Tryz.prog 163 := ⟨⟨_, Tryz.underlying163⟩⟩
instance : TEl Tryz.prog 163 1 8 (.pointer none) := ⟨by kernel_rfl, rfl, by decide⟩
instance : TZero Tryz.prog 163 [.pointer none] := ⟨.pointer none, by kernel_rfl, rfl⟩
instance : TRow Tryz.prog 164 1 := ⟨⟨_, Tryz.underlying164, rfl⟩, by kernel_rfl⟩
instance : TFld Tryz.prog 164 0 0 := ⟨_, _, 0, Tryz.underlying164, rfl, rfl, by kernel_rfl⟩
instance : TEq Tryz.prog 164 [2] := ⟨by kernel_rfl, by kernel_rfl, _, Tryz.underlying164⟩
instance : TEl Tryz.prog 164 1 16 (.agg #[.string ⟨#[]⟩]) := ⟨by kernel_rfl, rfl, by decide⟩
instance : TZero Tryz.prog 164 [.string ⟨#[]⟩] := ⟨.agg #[.string ⟨#[]⟩], by kernel_rfl, rfl⟩
instance : TRow Tryz.prog 165 1 := ⟨⟨_, Tryz.underlying165, rfl⟩, by kernel_rfl⟩
instance : TFld Tryz.prog 165 0 0 := ⟨_, _, 0, Tryz.underlying165, rfl, rfl, by kernel_rfl⟩
instance : TEq Tryz.prog 165 [2] := ⟨by kernel_rfl, by kernel_rfl, _, Tryz.underlying165⟩
instance : TEl Tryz.prog 165 1 16 (.agg #[.string ⟨#[]⟩]) := ⟨by kernel_rfl, rfl, by decide⟩
instance : TZero Tryz.prog 165 [.string ⟨#[]⟩] := ⟨.agg #[.string ⟨#[]⟩], by kernel_rfl, rfl⟩
instance : TRow Tryz.prog 167 32 := ⟨⟨_, Tryz.underlying167, rfl⟩, by kernel_rfl⟩
instance : TEl Tryz.prog 167 32 32 (.agg #[.int .u8 0, .int .u8 0, .int .u8 0, .int .u8 0, .int .u8 0, .int .u8 0, .int .u8 0, .int .u8 0, .int .u8 0, .int .u8 0, .int .u8 0, .int .u8 0, .int .u8 0, .int .u8 0, .int .u8 0, .int .u8 0, .int .u8 0, .int .u8 0, .int .u8 0, .int .u8 0, .int .u8 0, .int .u8 0, .int .u8 0, .int .u8 0, .int .u8 0, .int .u8 0, .int .u8 0, .int .u8 0, .int .u8 0, .int .u8 0, .int .u8 0, .int .u8 0]) := ⟨by kernel_rfl, rfl, by decide⟩
instance : TZero Tryz.prog 167 [.int .u8 0, .int .u8 0, .int .u8 0, .int .u8 0, .int .u8 0, .int .u8 0, .int .u8 0, .int .u8 0, .int .u8 0, .int .u8 0, .int .u8 0, .int .u8 0, .int .u8 0, .int .u8 0, .int .u8 0, .int .u8 0, .int .u8 0, .int .u8 0, .int .u8 0, .int .u8 0, .int .u8 0, .int .u8 0, .int .u8 0, .int .u8 0, .int .u8 0, .int .u8 0, .int .u8 0, .int .u8 0, .int .u8 0, .int .u8 0, .int .u8 0, .int .u8 0] := ⟨.agg #[.int .u8 0, .int .u8 0, .int .u8 0, .int .u8 0, .int .u8 0, .int .u8 0, .int .u8 0, .int .u8 0, .int .u8 0, .int .u8 0, .int .u8 0, .int .u8 0, .int .u8 0, .int .u8 0, .int .u8 0, .int .u8 0, .int .u8 0, .int .u8 0, .int .u8 0, .int .u8 0, .int .u8 0, .int .u8 0, .int .u8 0, .int .u8 0, .int .u8 0, .int .u8 0, .int .u8 0, .int .u8 0, .int .u8 0, .int .u8 0, .int .u8 0, .int .u8 0], by kernel_rfl, rfl⟩
instance : TRow Tryz.prog 168 64 := ⟨⟨_, Tryz.underlying168, rfl⟩, by kernel_rfl⟩
instance : TEl Tryz.prog 168 64 64 (.agg #[.int .u8 0, .int .u8 0, .int .u8 0, .int .u8 0, .int .u8 0, .int .u8 0, .int .u8 0, .int .u8 0, .int .u8 0, .int .u8 0, .int .u8 0, .int .u8 0, .int .u8 0, .int .u8 0, .int .u8 0, .int .u8 0, .int .u8 0, .int .u8 0, .int .u8 0, .int .u8 0, .int .u8 0, .int .u8 0, .int .u8 0, .int .u8 0, .int .u8 0, .int .u8 0, .int .u8 0, .int .u8 0, .int .u8 0, .int .u8 0, .int .u8 0, .int .u8 0, .int .u8 0, .int .u8 0, .int .u8 0, .int .u8 0, .int .u8 0, .int .u8 0, .int .u8 0, .int .u8 0, .int .u8 0, .int .u8 0, .int .u8 0, .int .u8 0, .int .u8 0, .int .u8 0, .int .u8 0, .int .u8 0, .int .u8 0, .int .u8 0, .int .u8 0, .int .u8 0, .int .u8 0, .int .u8 0, .int .u8 0, .int .u8 0, .int .u8 0, .int .u8 0, .int .u8 0, .int .u8 0, .int .u8 0, .int .u8 0, .int .u8 0, .int .u8 0]) := ⟨by kernel_rfl, rfl, by decide⟩
instance : TZero Tryz.prog 168 [.int .u8 0, .int .u8 0, .int .u8 0, .int .u8 0, .int .u8 0, .int .u8 0, .int .u8 0, .int .u8 0, .int .u8 0, .int .u8 0, .int .u8 0, .int .u8 0, .int .u8 0, .int .u8 0, .int .u8 0, .int .u8 0, .int .u8 0, .int .u8 0, .int .u8 0, .int .u8 0, .int .u8 0, .int .u8 0, .int .u8 0, .int .u8 0, .int .u8 0, .int .u8 0, .int .u8 0, .int .u8 0, .int .u8 0, .int .u8 0, .int .u8 0, .int .u8 0, .int .u8 0, .int .u8 0, .int .u8 0, .int .u8 0, .int .u8 0, .int .u8 0, .int .u8 0, .int .u8 0, .int .u8 0, .int .u8 0, .int .u8 0, .int .u8 0, .int .u8 0, .int .u8 0, .int .u8 0, .int .u8 0, .int .u8 0, .int .u8 0, .int .u8 0, .int .u8 0, .int .u8 0, .int .u8 0, .int .u8 0, .int .u8 0, .int .u8 0, .int .u8 0, .int .u8 0, .int .u8 0, .int .u8 0, .int .u8 0, .int .u8 0, .int .u8 0] := ⟨.agg #[.int .u8 0, .int .u8 0, .int .u8 0, .int .u8 0, .int .u8 0, .int .u8 0, .int .u8 0, .int .u8 0, .int .u8 0, .int .u8 0, .int .u8 0, .int .u8 0, .int .u8 0, .int .u8 0, .int .u8 0, .int .u8 0, .int .u8 0, .int .u8 0, .int .u8 0, .int .u8 0, .int .u8 0, .int .u8 0, .int .u8 0, .int .u8 0, .int .u8 0, .int .u8 0, .int .u8 0, .int .u8 0, .int .u8 0, .int .u8 0, .int .u8 0, .int .u8 0, .int .u8 0, .int .u8 0, .int .u8 0, .int .u8 0, .int .u8 0, .int .u8 0, .int .u8 0, .int .u8 0, .int .u8 0, .int .u8 0, .int .u8 0, .int .u8 0, .int .u8 0, .int .u8 0, .int .u8 0, .int .u8 0, .int .u8 0, .int .u8 0, .int .u8 0, .int .u8 0, .int .u8 0, .int .u8 0, .int .u8 0, .int .u8 0, .int .u8 0, .int .u8 0, .int .u8 0, .int .u8 0, .int .u8 0, .int .u8 0, .int .u8 0, .int .u8 0], by kernel_rfl, rfl⟩
instance : TRow Tryz.prog 169 4 := ⟨⟨_, Tryz.underlying169, rfl⟩, by kernel_rfl⟩
instance : TFld Tryz.prog 169 0 0 := ⟨_, _, 0, Tryz.underlying169, rfl, rfl, by kernel_rfl⟩
instance : TFld Tryz.prog 169 1 1 := ⟨_, _, 0, Tryz.underlying169, rfl, rfl, by kernel_rfl⟩
instance : TFld Tryz.prog 169 2 2 := ⟨_, _, 0, Tryz.underlying169, rfl, rfl, by kernel_rfl⟩
instance : TFld Tryz.prog 169 3 3 := ⟨_, _, 0, Tryz.underlying169, rfl, rfl, by kernel_rfl⟩
instance : TEl Tryz.prog 169 4 40 (.agg #[.pointer none, .pointer none, .pointer none, .string ⟨#[]⟩]) := ⟨by kernel_rfl, rfl, by decide⟩
instance : TZero Tryz.prog 169 [.pointer none, .pointer none, .pointer none, .string ⟨#[]⟩] := ⟨.agg #[.pointer none, .pointer none, .pointer none, .string ⟨#[]⟩], by kernel_rfl, rfl⟩
instance : TRow Tryz.prog 170 4 := ⟨⟨_, Tryz.underlying170, rfl⟩, by kernel_rfl⟩
instance : TFld Tryz.prog 170 0 0 := ⟨_, _, 0, Tryz.underlying170, rfl, rfl, by kernel_rfl⟩
instance : TFld Tryz.prog 170 1 1 := ⟨_, _, 0, Tryz.underlying170, rfl, rfl, by kernel_rfl⟩
instance : TFld Tryz.prog 170 2 2 := ⟨_, _, 0, Tryz.underlying170, rfl, rfl, by kernel_rfl⟩
instance : TFld Tryz.prog 170 3 3 := ⟨_, _, 0, Tryz.underlying170, rfl, rfl, by kernel_rfl⟩
instance : TEl Tryz.prog 170 4 40 (.agg #[.pointer none, .pointer none, .pointer none, .string ⟨#[]⟩]) := ⟨by kernel_rfl, rfl, by decide⟩
instance : TZero Tryz.prog 170 [.pointer none, .pointer none, .pointer none, .string ⟨#[]⟩] := ⟨.agg #[.pointer none, .pointer none, .pointer none, .string ⟨#[]⟩], by kernel_rfl, rfl⟩
instance : TOne Tryz.prog 175 := ⟨⟨_, Tryz.underlying175, rfl⟩, by kernel_rfl⟩
instance : TEl Tryz.prog 175 1 1 (.int .u8 0) := ⟨by kernel_rfl, rfl, by decide⟩
instance : TZero Tryz.prog 175 [.int .u8 0] := ⟨.int .u8 0, by kernel_rfl, rfl⟩
instance : TOne Tryz.prog 176 := ⟨⟨_, Tryz.underlying176, rfl⟩, by kernel_rfl⟩
instance : TEl Tryz.prog 176 1 1 (.int .u8 0) := ⟨by kernel_rfl, rfl, by decide⟩
instance : TZero Tryz.prog 176 [.int .u8 0] := ⟨.int .u8 0, by kernel_rfl, rfl⟩
instance : TOne Tryz.prog 178 := ⟨⟨_, Tryz.underlying178, rfl⟩, by kernel_rfl⟩
instance : TEl Tryz.prog 178 1 4 (.int .i32 0) := ⟨by kernel_rfl, rfl, by decide⟩
instance : TZero Tryz.prog 178 [.int .i32 0] := ⟨.int .i32 0, by kernel_rfl, rfl⟩
instance : TOne Tryz.prog 179 := ⟨⟨_, Tryz.underlying179, rfl⟩, by kernel_rfl⟩
instance : TEl Tryz.prog 179 1 4 (.int .i32 0) := ⟨by kernel_rfl, rfl, by decide⟩
instance : TZero Tryz.prog 179 [.int .i32 0] := ⟨.int .i32 0, by kernel_rfl, rfl⟩
instance : TRow Tryz.prog 180 11 := ⟨⟨_, Tryz.underlying180, rfl⟩, by kernel_rfl⟩
instance : TFld Tryz.prog 180 0 0 := ⟨_, _, 0, Tryz.underlying180, rfl, rfl, by kernel_rfl⟩
instance : TFld Tryz.prog 180 1 1 := ⟨_, _, 0, Tryz.underlying180, rfl, rfl, by kernel_rfl⟩
instance : TFld Tryz.prog 180 2 2 := ⟨_, _, 0, Tryz.underlying180, rfl, rfl, by kernel_rfl⟩
instance : TFld Tryz.prog 180 3 3 := ⟨_, _, 0, Tryz.underlying180, rfl, rfl, by kernel_rfl⟩
instance : TFld Tryz.prog 180 4 4 := ⟨_, _, 0, Tryz.underlying180, rfl, rfl, by kernel_rfl⟩
instance : TFld Tryz.prog 180 5 5 := ⟨_, _, 0, Tryz.underlying180, rfl, rfl, by kernel_rfl⟩
instance : TFld Tryz.prog 180 6 6 := ⟨_, _, 0, Tryz.underlying180, rfl, rfl, by kernel_rfl⟩
instance : TFld Tryz.prog 180 7 7 := ⟨_, _, 0, Tryz.underlying180, rfl, rfl, by kernel_rfl⟩
instance : TFld Tryz.prog 180 8 8 := ⟨_, _, 0, Tryz.underlying180, rfl, rfl, by kernel_rfl⟩
instance : TFld Tryz.prog 180 9 9 := ⟨_, _, 0, Tryz.underlying180, rfl, rfl, by kernel_rfl⟩
instance : TFld Tryz.prog 180 10 10 := ⟨_, _, 0, Tryz.underlying180, rfl, rfl, by kernel_rfl⟩
instance : TRow Tryz.prog 181 11 := ⟨⟨_, Tryz.underlying181, rfl⟩, by kernel_rfl⟩
instance : TFld Tryz.prog 181 0 0 := ⟨_, _, 0, Tryz.underlying181, rfl, rfl, by kernel_rfl⟩
instance : TFld Tryz.prog 181 1 1 := ⟨_, _, 0, Tryz.underlying181, rfl, rfl, by kernel_rfl⟩
instance : TFld Tryz.prog 181 2 2 := ⟨_, _, 0, Tryz.underlying181, rfl, rfl, by kernel_rfl⟩
instance : TFld Tryz.prog 181 3 3 := ⟨_, _, 0, Tryz.underlying181, rfl, rfl, by kernel_rfl⟩
instance : TFld Tryz.prog 181 4 4 := ⟨_, _, 0, Tryz.underlying181, rfl, rfl, by kernel_rfl⟩
instance : TFld Tryz.prog 181 5 5 := ⟨_, _, 0, Tryz.underlying181, rfl, rfl, by kernel_rfl⟩
instance : TFld Tryz.prog 181 6 6 := ⟨_, _, 0, Tryz.underlying181, rfl, rfl, by kernel_rfl⟩
instance : TFld Tryz.prog 181 7 7 := ⟨_, _, 0, Tryz.underlying181, rfl, rfl, by kernel_rfl⟩
instance : TFld Tryz.prog 181 8 8 := ⟨_, _, 0, Tryz.underlying181, rfl, rfl, by kernel_rfl⟩
instance : TFld Tryz.prog 181 9 9 := ⟨_, _, 0, Tryz.underlying181, rfl, rfl, by kernel_rfl⟩
instance : TFld Tryz.prog 181 10 10 := ⟨_, _, 0, Tryz.underlying181, rfl, rfl, by kernel_rfl⟩
instance : TFun Tryz.prog 3 := ⟨_, Tryz.func3, by kernel_rfl, by kernel_rfl⟩
instance : TFun Tryz.prog 4 := ⟨_, Tryz.func4, by kernel_rfl, by kernel_rfl⟩
instance : TFun Tryz.prog 5 := ⟨_, Tryz.func5, by kernel_rfl, by kernel_rfl⟩
instance : TFun Tryz.prog 6 := ⟨_, Tryz.func6, by kernel_rfl, by kernel_rfl⟩
instance : TFun Tryz.prog 7 := ⟨_, Tryz.func7, by kernel_rfl, by kernel_rfl⟩
instance : TFun Tryz.prog 8 := ⟨_, Tryz.func8, by kernel_rfl, by kernel_rfl⟩
instance : TFun Tryz.prog 9 := ⟨_, Tryz.func9, by kernel_rfl, by kernel_rfl⟩
instance : TFun Tryz.prog 10 := ⟨_, Tryz.func10, by kernel_rfl, by kernel_rfl⟩
instance : TFun Tryz.prog 11 := ⟨_, Tryz.func11, by kernel_rfl, by kernel_rfl⟩
instance : TFun Tryz.prog 12 := ⟨_, Tryz.func12, by kernel_rfl, by kernel_rfl⟩
instance : TFun Tryz.prog 13 := ⟨_, Tryz.func13, by kernel_rfl, by kernel_rfl⟩
instance : TFun Tryz.prog 14 := ⟨_, Tryz.func14, by kernel_rfl, by kernel_rfl⟩
instance : TFun Tryz.prog 15 := ⟨_, Tryz.func15, by kernel_rfl, by kernel_rfl⟩
instance : TFun Tryz.prog 16 := ⟨_, Tryz.func16, by kernel_rfl, by kernel_rfl⟩
instance : TFun Tryz.prog 17 := ⟨_, Tryz.func17, by kernel_rfl, by kernel_rfl⟩
instance : TFun Tryz.prog 18 := ⟨_, Tryz.func18, by kernel_rfl, by kernel_rfl⟩
instance : TFun Tryz.prog 19 := ⟨_, Tryz.func19, by kernel_rfl, by kernel_rfl⟩
instance : TFun Tryz.prog 20 := ⟨_, Tryz.func20, by kernel_rfl, by kernel_rfl⟩
instance : TFun Tryz.prog 21 := ⟨_, Tryz.func21, by kernel_rfl, by kernel_rfl⟩
instance : TFun Tryz.prog 22 := ⟨_, Tryz.func22, by kernel_rfl, by kernel_rfl⟩
instance : TFun Tryz.prog 23 := ⟨_, Tryz.func23, by kernel_rfl, by kernel_rfl⟩
instance : TFun Tryz.prog 24 := ⟨_, Tryz.func24, by kernel_rfl, by kernel_rfl⟩
instance : TFun Tryz.prog 25 := ⟨_, Tryz.func25, by kernel_rfl, by kernel_rfl⟩
instance : TFun Tryz.prog 26 := ⟨_, Tryz.func26, by kernel_rfl, by kernel_rfl⟩
instance : TFun Tryz.prog 27 := ⟨_, Tryz.func27, by kernel_rfl, by kernel_rfl⟩
instance : TFun Tryz.prog 28 := ⟨_, Tryz.func28, by kernel_rfl, by kernel_rfl⟩
instance : TFun Tryz.prog 29 := ⟨_, Tryz.func29, by kernel_rfl, by kernel_rfl⟩
instance : TFun Tryz.prog 31 := ⟨_, Tryz.func31, by kernel_rfl, by kernel_rfl⟩
instance : TFun Tryz.prog 32 := ⟨_, Tryz.func32, by kernel_rfl, by kernel_rfl⟩
instance : TFun Tryz.prog 33 := ⟨_, Tryz.func33, by kernel_rfl, by kernel_rfl⟩
instance : TFun Tryz.prog 34 := ⟨_, Tryz.func34, by kernel_rfl, by kernel_rfl⟩
instance : TFun Tryz.prog 35 := ⟨_, Tryz.func35, by kernel_rfl, by kernel_rfl⟩
instance : TFun Tryz.prog 36 := ⟨_, Tryz.func36, by kernel_rfl, by kernel_rfl⟩
instance : TFun Tryz.prog 37 := ⟨_, Tryz.func37, by kernel_rfl, by kernel_rfl⟩
instance : TFun Tryz.prog 38 := ⟨_, Tryz.func38, by kernel_rfl, by kernel_rfl⟩
instance : TFun Tryz.prog 39 := ⟨_, Tryz.func39, by kernel_rfl, by kernel_rfl⟩
instance : TFun Tryz.prog 40 := ⟨_, Tryz.func40, by kernel_rfl, by kernel_rfl⟩
instance : TFun Tryz.prog 41 := ⟨_, Tryz.func41, by kernel_rfl, by kernel_rfl⟩
instance : TFun Tryz.prog 42 := ⟨_, Tryz.func42, by kernel_rfl, by kernel_rfl⟩
instance : TFun Tryz.prog 43 := ⟨_, Tryz.func43, by kernel_rfl, by kernel_rfl⟩
instance : TFun Tryz.prog 44 := ⟨_, Tryz.func44, by kernel_rfl, by kernel_rfl⟩
instance : TFun Tryz.prog 45 := ⟨_, Tryz.func45, by kernel_rfl, by kernel_rfl⟩
instance : TFun Tryz.prog 46 := ⟨_, Tryz.func46, by kernel_rfl, by kernel_rfl⟩
instance : TFun Tryz.prog 47 := ⟨_, Tryz.func47, by kernel_rfl, by kernel_rfl⟩
instance : TFun Tryz.prog 48 := ⟨_, Tryz.func48, by kernel_rfl, by kernel_rfl⟩
instance : TFun Tryz.prog 49 := ⟨_, Tryz.func49, by kernel_rfl, by kernel_rfl⟩
instance : TFun Tryz.prog 51 := ⟨_, Tryz.func51, by kernel_rfl, by kernel_rfl⟩
instance : TFun Tryz.prog 52 := ⟨_, Tryz.func52, by kernel_rfl, by kernel_rfl⟩
instance : TFun Tryz.prog 53 := ⟨_, Tryz.func53, by kernel_rfl, by kernel_rfl⟩
instance : TFun Tryz.prog 54 := ⟨_, Tryz.func54, by kernel_rfl, by kernel_rfl⟩
instance : TFun Tryz.prog 55 := ⟨_, Tryz.func55, by kernel_rfl, by kernel_rfl⟩
instance : TFun Tryz.prog 56 := ⟨_, Tryz.func56, by kernel_rfl, by kernel_rfl⟩
instance : TFun Tryz.prog 57 := ⟨_, Tryz.func57, by kernel_rfl, by kernel_rfl⟩
instance : TFun Tryz.prog 58 := ⟨_, Tryz.func58, by kernel_rfl, by kernel_rfl⟩
instance : TFun Tryz.prog 59 := ⟨_, Tryz.func59, by kernel_rfl, by kernel_rfl⟩
instance : TFun Tryz.prog 60 := ⟨_, Tryz.func60, by kernel_rfl, by kernel_rfl⟩
instance : TFun Tryz.prog 61 := ⟨_, Tryz.func61, by kernel_rfl, by kernel_rfl⟩
instance : TFun Tryz.prog 62 := ⟨_, Tryz.func62, by kernel_rfl, by kernel_rfl⟩
instance : TFun Tryz.prog 63 := ⟨_, Tryz.func63, by kernel_rfl, by kernel_rfl⟩
instance : TFun Tryz.prog 64 := ⟨_, Tryz.func64, by kernel_rfl, by kernel_rfl⟩
instance : TFun Tryz.prog 65 := ⟨_, Tryz.func65, by kernel_rfl, by kernel_rfl⟩
instance : TFun Tryz.prog 66 := ⟨_, Tryz.func66, by kernel_rfl, by kernel_rfl⟩
instance : TFun Tryz.prog 67 := ⟨_, Tryz.func67, by kernel_rfl, by kernel_rfl⟩
instance : TFun Tryz.prog 68 := ⟨_, Tryz.func68, by kernel_rfl, by kernel_rfl⟩
instance : TFun Tryz.prog 69 := ⟨_, Tryz.func69, by kernel_rfl, by kernel_rfl⟩
instance : TFun Tryz.prog 70 := ⟨_, Tryz.func70, by kernel_rfl, by kernel_rfl⟩
instance : TFun Tryz.prog 71 := ⟨_, Tryz.func71, by kernel_rfl, by kernel_rfl⟩
instance : TFun Tryz.prog 72 := ⟨_, Tryz.func72, by kernel_rfl, by kernel_rfl⟩
instance : TFun Tryz.prog 73 := ⟨_, Tryz.func73, by kernel_rfl, by kernel_rfl⟩
instance : TFun Tryz.prog 77 := ⟨_, Tryz.func77, by kernel_rfl, by kernel_rfl⟩
instance : TFun Tryz.prog 78 := ⟨_, Tryz.func78, by kernel_rfl, by kernel_rfl⟩
instance : TFun Tryz.prog 79 := ⟨_, Tryz.func79, by kernel_rfl, by kernel_rfl⟩
instance : TFun Tryz.prog 80 := ⟨_, Tryz.func80, by kernel_rfl, by kernel_rfl⟩
instance : TFun Tryz.prog 82 := ⟨_, Tryz.func82, by kernel_rfl, by kernel_rfl⟩
instance : TFun Tryz.prog 83 := ⟨_, Tryz.func83, by kernel_rfl, by kernel_rfl⟩
instance : TFun Tryz.prog 84 := ⟨_, Tryz.func84, by kernel_rfl, by kernel_rfl⟩
instance : TFun Tryz.prog 85 := ⟨_, Tryz.func85, by kernel_rfl, by kernel_rfl⟩
instance : TFun Tryz.prog 86 := ⟨_, Tryz.func86, by kernel_rfl, by kernel_rfl⟩
instance : TFun Tryz.prog 89 := ⟨_, Tryz.func89, by kernel_rfl, by kernel_rfl⟩
instance : TFun Tryz.prog 90 := ⟨_, Tryz.func90, by kernel_rfl, by kernel_rfl⟩
instance : TFun Tryz.prog 91 := ⟨_, Tryz.func91, by kernel_rfl, by kernel_rfl⟩
instance : TFun Tryz.prog 92 := ⟨_, Tryz.func92, by kernel_rfl, by kernel_rfl⟩
instance : TFun Tryz.prog 93 := ⟨_, Tryz.func93, by kernel_rfl, by kernel_rfl⟩
instance : TFun Tryz.prog 94 := ⟨_, Tryz.func94, by kernel_rfl, by kernel_rfl⟩
instance : TFun Tryz.prog 99 := ⟨_, Tryz.func99, by kernel_rfl, by kernel_rfl⟩
instance : TFun Tryz.prog 100 := ⟨_, Tryz.func100, by kernel_rfl, by kernel_rfl⟩
instance : TFun Tryz.prog 101 := ⟨_, Tryz.func101, by kernel_rfl, by kernel_rfl⟩
instance : TFun Tryz.prog 102 := ⟨_, Tryz.func102, by kernel_rfl, by kernel_rfl⟩
instance : TFun Tryz.prog 103 := ⟨_, Tryz.func103, by kernel_rfl, by kernel_rfl⟩
instance : TFun Tryz.prog 110 := ⟨_, Tryz.func110, by kernel_rfl, by kernel_rfl⟩
instance : TFun Tryz.prog 111 := ⟨_, Tryz.func111, by kernel_rfl, by kernel_rfl⟩
instance : TFun Tryz.prog 116 := ⟨_, Tryz.func116, by kernel_rfl, by kernel_rfl⟩
instance : TFun Tryz.prog 117 := ⟨_, Tryz.func117, by kernel_rfl, by kernel_rfl⟩
instance : TFun Tryz.prog 130 := ⟨_, Tryz.func130, by kernel_rfl, by kernel_rfl⟩
instance : TFun Tryz.prog 131 := ⟨_, Tryz.func131, by kernel_rfl, by kernel_rfl⟩

end Go.Proofs.YtkkjjhooamlljaaGreatDoor
namespace Go.Proofs.YtkkjjhooamlljaaGreatDoor
open Go.RowKit

set_option maxRecDepth 100000 in
theorem l01Byte_any (B g : Nat) (w : World) (hc : Cur B 100 w g) :
    Calls Tryz.prog 89 #[.pointer (some ⟨g, 0, none⟩)] w (Drew B 100 g w fun x => 0 ≤ x ∧ x ≤ 255) := by
  obtain ⟨a, len, cap, i, h, hb, hg, hi, hl, hy⟩ := hc
  have hgs : g < w.heap.size := (Array.getElem?_eq_some_iff.1 hg).1
  have c0 : w.cell? ⟨g, 0, none⟩ = some (.slice a len cap) := by simp [World.cell?, hg]
  have c1 : w.cell? ⟨g, 1, none⟩ = some (.int .i64 i) := by simp [World.cell?, hg]
  have c2 : w.cell? ⟨g, 2, none⟩ = some (.int .i64 h) := by simp [World.cell?, hg]
  have z1 : w.frozen? ⟨g, 1, none⟩ = false := by simp [World.frozen?, hg]
  have z2 : w.frozen? ⟨g, 2, none⟩ = false := by simp [World.frozen?, hg]
  have hg' := Lib.hid hg
  have hy' := Lib.hid hy
  clear hg
  by_cases hlt : i < len
  · rcases hy with h0 | ⟨b, off, rfl, hbB, hcell⟩
    · omega
    obtain ⟨n, hn0, hn1, hn⟩ := hcell i hlt
    have hbg : b ≠ g := by omega
    have hgb : g ≠ b := by omega
    clear hcell
    go_enter Tryz.func89, Tryz.ntmps89
    go_wp2
    go_quiet (fail)
    go_wp2
    go_quiet (fail)
    go_wp2
    go_quiet (fail)
    go_wp2
    go_ret
    refine drew_mk (B := B) (T := 100) (g := g) (w := w) (and255 _) ⟨_, len, cap, i + 1, wrap64 (wrap64 (h * 6364136223846793005) + 1442695040888963407), hb, by simp [World.setCell, World.drewN, Array.getElem?_modify, hg'.out], by omega, hl, hy'.out⟩ ?_
    repeat (first | exact Mod.refl _ _ | refine Mod.drewN ?_ _ | refine Mod.setAt ?_ _ _ _)
  · go_enter Tryz.func89, Tryz.ntmps89
    go_wp2
    go_quiet (fail)
    go_wp2
    go_quiet (fail)
    go_wp2
    go_ret
    refine drew_mk (B := B) (T := 100) (g := g) (w := w) (and255 _) ⟨_, len, cap, i, wrap64 (wrap64 (h * 6364136223846793005) + 1442695040888963407), hb, by simp [World.setCell, World.drewN, Array.getElem?_modify, hg'.out], by omega, hl, hy'.out⟩ ?_
    repeat (first | exact Mod.refl _ _ | refine Mod.drewN ?_ _ | refine Mod.setAt ?_ _ _ _)

set_option maxRecDepth 100000 in
theorem l01Below_any (B g : Nat) (w : World) (hc : Cur B 100 w g) (n : Int) (hn : n ≤ 1000000000) :
    Calls Tryz.prog 53 #[.pointer (some ⟨g, 0, none⟩), .int .i64 n] w (Drew B 100 g w fun x => 0 ≤ x ∧ (x < n ∨ n ≤ 0 ∧ x = 0)) := by
  by_cases h0 : n ≤ 0
  · go_enter Tryz.func53, Tryz.ntmps53
    go_wp2
    go_ret
    exact ⟨0, ⟨by omega, .inr ⟨h0, rfl⟩⟩, rfl, hc, Mod.refl _ _⟩
  · have hp : 0 < n := by omega
    by_cases h1 : n ≤ 256
    · go_enter Tryz.func53, Tryz.ntmps53
      go_wp2_with fail
      refine (l01Byte_any B g w hc).mono ?_
      rintro e w1 ⟨x, hx, rfl, hc1, hm1⟩
      have hx0 := hx.1
      have hx1 := hx.2
      clear hx
      go_wp2
      go_ret
      refine ⟨_, ?_, rfl, hc1, hm1⟩
      have := Int.emod_nonneg x (show n ≠ 0 by omega)
      have := Int.emod_lt_of_pos x hp
      omega
    · have h2 : 256 < n := by omega
      go_enter Tryz.func53, Tryz.ntmps53
      go_wp2_with fail
      refine (l01Byte_any B g w hc).mono ?_
      rintro e w1 ⟨x1, ⟨hx1, hy1⟩, rfl, hc1, hm1⟩
      go_wp2_with fail
      refine (l01Byte_any B g w1 hc1).mono ?_
      rintro e w2 ⟨x2, ⟨hx2, hy2⟩, rfl, hc2, hm2⟩
      go_wp2_with fail
      refine (l01Byte_any B g w2 hc2).mono ?_
      rintro e w3 ⟨x3, ⟨hx3, hy3⟩, rfl, hc3, hm3⟩
      go_wp2_with fail
      refine (l01Byte_any B g w3 hc3).mono ?_
      rintro e w4 ⟨x4, ⟨hx4, hy4⟩, rfl, hc4, hm4⟩
      go_wp2
      go_ret
      refine ⟨_, ?_, rfl, hc4, ((hm1.trans hm2).trans hm3).trans hm4⟩
      have := Int.emod_nonneg (x1 * 16777216 + x2 * 65536 + x3 * 256 + x4) (show n ≠ 0 by omega)
      have := Int.emod_lt_of_pos (x1 * 16777216 + x2 * 65536 + x3 * 256 + x4) hp
      omega

theorem l01Once_any (B g : Nat) (w : World) (hc : Cur B 100 w g) (n : Int) (hn : n ≤ 1000000000) :
    Calls Tryz.prog 55 #[.pointer (some ⟨g, 0, none⟩), .int .i64 n] w fun e w' => ∃ b, e = .returned (.bool b) ∧ Cur B 100 w' g ∧ Mod (fun k => k = g) w w' := by
  go_enter Tryz.func55, Tryz.ntmps55
  go_wp2_with fail
  refine (l01Below_any B g w hc n hn).mono ?_
  rintro e w1 ⟨x, hx, rfl, hc1, hm1⟩
  clear hx
  go_wp2
  go_ret
  exact ⟨_, rfl, hc1, hm1⟩

set_option maxRecDepth 100000 in
theorem l01New_any (B : Nat) (w : World) (a : Option Addr) (len cap : Nat) (hB : B ≤ w.heap.size) (hl : len ≤ 1048576) (hy : Bytes B w a len) :
    Calls Tryz.prog 36 #[.slice a len cap] w (NewCur B 100 w) := by
  have Hy := Lib.hid hy
  clear hy
  go_enter Tryz.func36, Tryz.ntmps36
  go_wp2
  go_loop [3, 4] (fun h i => ∃ (k : Nat) (n : Int), k ≤ len ∧ h = .int .i64 n ∧ i = .int .i64 k) (fun _ i => len - (intOf i).toNat)
  case atStart => exact ⟨0, _, by omega, rfl, rfl⟩
  case round =>
    obtain ⟨k, n, hk, rfl, rfl⟩ := hrel
    by_cases hlt : k < len ∧ k < 4000
    · obtain ⟨h1, h2⟩ := hlt
      rcases Hy.out with h0 | ⟨b, off, rfl, hbB, hcell⟩
      · omega
      obtain ⟨m, hm0, hm1, hm⟩ := hcell k h1
      clear hcell
      go_wp2
      go_round
      case rel => exact ⟨k + 1, _, by omega, rfl, by go_num⟩
      case measure => simp [intOf]; omega
    · have hn : ¬ (k < len) ∨ (k < len ∧ ¬ k < 4000) := by omega
      clear hlt
      rcases hn with hn | ⟨hp, hn⟩
      all_goals
        go_wp2
        go_ret
        refine ⟨w.heap.size, Nat.le_refl _, rfl, ⟨a, len, cap, 0, n, hB, heap_alloc_new w _, by omega, hl, Hy.out.same fun k hk => ?_⟩, (Mod.refl _ w).alloc _⟩
        exact Below.heap_alloc _ _ _ (by omega)

/-- One of a list's numbers. -/
theorem l01PickInt_any (B g : Nat) (w : World) (hc : Cur B 100 w g) (b cap : Nat) (l : List Int) (hl : Ints w b 0 l) (hp : 0 < l.length) (hm : l.length ≤ 1000) (hbg : b ≠ g) :
    Calls Tryz.prog 101 #[.pointer (some ⟨g, 0, none⟩), .slice (some ⟨b, 0, none⟩) l.length cap] w (Drew B 100 g w fun x => x ∈ l) := by
  have Hl := Lib.hid hl
  clear hl
  go_enter Tryz.func101, Tryz.ntmps101
  go_wp2_with fail
  refine (l01Below_any B g w hc l.length (by omega)).mono ?_
  rintro e w1 ⟨x, ⟨hx0, hx1⟩, rfl, hc1, hm1⟩
  obtain ⟨k, rfl⟩ := Int.eq_ofNat_of_zero_le hx0
  have hk : k < l.length := by omega
  have hcell := (Hl.out.mod hm1 (show ¬ b = g from hbg)) k hk
  rw [Nat.zero_add] at hcell
  clear hx1
  go_wp2
  go_ret
  exact ⟨_, by simp, rfl, hc1, hm1⟩

end Go.Proofs.YtkkjjhooamlljaaGreatDoor
namespace Go.Proofs.YtkkjjhooamlljaaGreatDoor
open Go.RowKit
set_option linter.unusedVariables false
set_option linter.unusedSimpArgs false

section
variable {P : Program} {n : Nat} {W : World} {R : Rg W} {L : List Blk} {O : List Own} {E : List Res} {f : List (Nat × Value)} {Q : Exit → Go.Act → World → Prop} {ops : Array Oper} {rest : List Oper}
theorem wp_mono_then {c y : Code} {K : Go.Act → World → Prop} {a : Go.Act} {w : World} (h : c.wp P (Exit.then K Q) a w) (hK : ∀ a w, K a w → y.wp P Q a w) : c.wp P (Exit.then (y.wp P Q) Q) a w :=
  wp_mono h (fun e a w q => by
    cases e with
    | normal => exact hK a w q
    | exit id => exact q
    | goto l => exact q
    | ret => exact q
    | panic ch => exact q
    | outgrown => exact q)
/-- A part of the text whose ways are told by one kind of state, and what follows. -/
theorem SX.join {ι : Type} {c y : Code} (inv : ι → Prop) (Lf : ι → List Blk) (Of : ι → List Own) (Ef : ι → List Res) (ff : ι → List (Nat × Value))
    (h1 : SX P n W R L O E f c (Exit.then (fun a w => ∃ i, inv i ∧ Fr n (ff i) a ∧ Loc W R (Lf i) (Of i) (Ef i) w) Q))
    (h2 : ∀ i, inv i → SX P n W R (Lf i) (Of i) (Ef i) (ff i) y Q) : SX P n W R L O E f c (Exit.then (y.wp P Q) Q) := ⟨fun a w hf hl =>
  wp_mono_then (h1.run a w hf hl) fun a w ⟨i, hi, hf, hl⟩ => (h2 i hi).run a w hf hl⟩
theorem SQ.join {ι : Type} {inv : ι → Prop} {Lf : ι → List Blk} {Of : ι → List Own} {Ef : ι → List Res} {ff : ι → List (Nat × Value)} (i : ι) (h : inv i) (hs : subF f (ff i)) (hl : ∀ w, Loc W R L O E w → Loc W R (Lf i) (Of i) (Ef i) w) :
    SQ n W R L O E f .normal (Exit.then (fun a w => ∃ i, inv i ∧ Fr n (ff i) a ∧ Loc W R (Lf i) (Of i) (Ef i) w) Q) := ⟨fun _ w hf hl' => ⟨i, h, hf.sub hs, hl w hl'⟩⟩
/-- A cursor may turn. -/
def curRg (T : TypeId) (B g : Nat) (W : World) (hg : g < W.heap.size) (hB : B ≤ g) : Rg W where
  p := fun k => k = g
  q := fun _ => False
  J := fun w => Cur B T w g
  low := fun k hk => by subst hk; exact hg
  sub := fun _ h => h.elim
  keep := fun S w w' h hm hs => h.mod hm (fun hS => hs g hg hS) (fun k hk hS => hs k (by omega) hS)
/-- What a drawing call gives. -/
def DrewV {ξ : Type} (T : TypeId) (B g : Nat) (w : World) (v : ξ → Value) (K : ξ → Prop) (e : Ending) (w' : World) : Prop := ∃ x, e = .returned (v x) ∧ K x ∧ Mod (fun k => k = g) w w' ∧ Cur B T w' g
theorem Drew.v {T : TypeId} {B g : Nat} {w : World} {p : Int → Prop} {e : Ending} {w' : World} (h : Drew B T g w p e w') : DrewV T B g w (fun x : Int => .int .i64 x) p e w' := by
  obtain ⟨x, hp, he, hc, hm⟩ := h
  exact ⟨x, he, hp, hm, hc⟩
variable {d : Option Nat} {dn g B T : Nat} {fn : FuncId} {ars : List Operand} {args : List Value} {aT : Array TypeId} {ty : TypeId} {pos : String} {af : Array Edge} {gd : Option (Nat × Bool)} {hg : g < W.heap.size} {hB : B ≤ g}
theorem SXl.draw {ξ : Type} {v : ξ → Value} [TFun P fn] (hw : wantO ops f ⟨some dn, .call ⟨.value (.func fn), ars.toArray, aT⟩, ty, pos, af, gd⟩ = some true) (hd : Nat.blt dn n = true) (ha : evL f ars = some args) (K : ξ → Prop)
    (hc : ∀ w, Loc W (curRg T B g W hg hB) L O [] w → Calls P fn args.toArray w (DrewV T B g w v K))
    (h : ∀ x, K x → SXl P n W (curRg T B g W hg hB) ops L O [] ((dn, v x) :: f) rest Q) : SXl P n W (curRg T B g W hg hB) ops L O [] f (⟨some dn, .call ⟨.value (.func fn), ars.toArray, aT⟩, ty, pos, af, gd⟩ :: rest) Q :=
  SXl.callJ (ξ := ξ) (v := v) (fun _ h => h) hw hd ha K hc h
theorem calls_draw {fid : FuncId} {fun_ : Func} {c : Code} {as_ : List Value} {w : World} {R' : Ending → World → Prop} (hc : Cur B T w g) (hf : P.funcs[fid]? = some fun_) (hb : fun_.body = some c) (hn : fun_.ntmps = n)
    (hfr : ∀ a : Go.Act, a.defers = [] → n ≤ a.tmps.size → (∀ (t : Nat) (v : Value), as_[t]? = some v → a.tmps[t]? = some v) → Fr n f a)
    (h : SX P n w (curRg T B g w hc.size hc.base) [] [] [] f c (bodyPost P fun_ R')) : Calls P fid as_.toArray w R' :=
  calls_sxJ (curRg T B g w hc.size hc.base) hc hf hb hn hfr h
/-- The same, with facts on other memory. -/
theorem SXl.drawE {ξ : Type} {v : ξ → Value} [TFun P fn] (hw : wantO ops f ⟨some dn, .call ⟨.value (.func fn), ars.toArray, aT⟩, ty, pos, af, gd⟩ = some true) (hd : Nat.blt dn n = true) (ha : evL f ars = some args) (K : ξ → Prop)
    (hc : ∀ w, Loc W (curRg T B g W hg hB) L O E w → Calls P fn args.toArray w (DrewV T B g w v K))
    (h : ∀ x, K x → SXl P n W (curRg T B g W hg hB) ops L O E ((dn, v x) :: f) rest Q) : SXl P n W (curRg T B g W hg hB) ops L O E f (⟨some dn, .call ⟨.value (.func fn), ars.toArray, aT⟩, ty, pos, af, gd⟩ :: rest) Q := ⟨fun a w hf hl => by
  unfold wpList
  rw [if_pos (wanted_of hf hw)]
  refine .inl ?_
  unfold Oper.wp
  rw [run_callop hf ha w _ _, Oper.upon_enter]
  refine (hc w hl).mono ?_
  rintro e w' ⟨x, rfl, hk, hm, hj⟩
  refine (h x hk).run _ _ (hf.put hd _) ?_
  exact {
    mod := hl.mod.then hm fun _ _ h => h
    inv := hj
    blk := fun b hb => ⟨(hl.blk b hb).1, hm.blk (hl.blk b hb).2 fun e => by
      rcases (hl.blk b hb).1 with h2 | h2
      · exact h2.elim
      · omega⟩
    apart := hl.apart
    own := fun q hq' => ⟨ownsRow_keep (hl.own q hq').1 hm fun k hk e => by have := (ownBlock_lt (hl.own q hq').1 hk).1; omega, (hl.own q hq').2⟩
    ownApart := hl.ownApart
    res := fun F hF => ⟨F.stable _ _ _ (hl.res F hF).1 hm (fun k hk e => by have := hl.resNew F hF k hk; omega), fun k hk => Nat.lt_of_lt_of_le ((hl.res F hF).2.1 k hk) hm.size, (hl.res F hF).2.2⟩
    resNew := hl.resNew
    resApart := hl.resApart }⟩
/-- A cursor of the call's own, over old bytes. -/
def curRes (T : TypeId) (W : World) (g : Nat) : Res where
  foot := fun k => k = g
  says := fun w => W.heap.size ≤ g ∧ ∃ (a : Option Addr) (len cap i : Nat) (h : Int), w.heap[g]? = some (.cells #[.slice a len cap, .int .i64 (i : Int), .int .i64 h] T (0, 0)) ∧ i ≤ len ∧ len ≤ 1048576 ∧ Bytes W.heap.size W a len
  stable := fun S w w' ⟨h0, a, len, cap, i, h, h1, h2⟩ hm hs => ⟨h0, a, len, cap, i, h, hm.blk h1 (hs g rfl), h2⟩
theorem cur_of {w : World} (hm : Mod (fun _ => False) W w) (h : (curRes T W g).says w) : Cur W.heap.size T w g := by
  obtain ⟨h0, a, len, cap, i, hh, h1, h2, h3, h4⟩ := h
  exact ⟨a, len, cap, i, hh, h0, h1, h2, h3, h4.same fun k hk => hm.block k hk (fun f => f)⟩
theorem of_cur {w : World} (hk : ∀ k, k < W.heap.size → w.heap[k]? = W.heap[k]?) (h : Cur W.heap.size T w g) : (curRes T W g).says w := by
  obtain ⟨a, len, cap, i, hh, h0, h1, h2, h3, h4⟩ := h
  exact ⟨h0, a, len, cap, i, hh, h1, h2, h3, h4.same fun k hk2 => (hk k hk2).symm⟩
/-- A new cursor. -/
theorem SXl.newCur [TFun P fn] (hw : wantO ops f ⟨some dn, .call ⟨.value (.func fn), ars.toArray, aT⟩, ty, pos, af, gd⟩ = some true) (hd : Nat.blt dn n = true) (ha : evL f ars = some args)
    (hc : ∀ w, Loc W (Rg.none W) L O E w → Calls P fn args.toArray w (NewCur W.heap.size T w))
    (h : ∀ g, SXl P n W (Rg.none W) ops L O (curRes T W g :: E) ((dn, .pointer (some ⟨g, 0, none⟩)) :: f) rest Q) : SXl P n W (Rg.none W) ops L O E f (⟨some dn, .call ⟨.value (.func fn), ars.toArray, aT⟩, ty, pos, af, gd⟩ :: rest) Q :=
  SXl.calln1 (ξ := Nat) (v := fun g => .pointer (some ⟨g, 0, none⟩)) (F1 := curRes T W) hw hd ha (fun w hl => (hc w hl).mono fun e w' ⟨g, h1, h2, h3, h4⟩ => ⟨g, h2, ⟨of_cur (fun k hk => by
    have e1 := hl.mod.block k hk (fun f => f)
    have e2 := h4.block k (Nat.lt_of_lt_of_le hk hl.mod.size) (fun f => f)
    rw [e2, e1]) h3, fun k hk => by subst hk; exact ⟨h1, h3.size⟩⟩, h4⟩) h
/-- A draw from it. -/
theorem SXl.drawC {ξ : Type} {v : ξ → Value} [TFun P fn] (i : Nat) (hw : wantO ops f ⟨some dn, .call ⟨.value (.func fn), ars.toArray, aT⟩, ty, pos, af, gd⟩ = some true) (hd : Nat.blt dn n = true) (ha : evL f ars = some args) (hi : E[i]? = some (curRes T W g)) (K : ξ → Prop)
    (hc : ∀ w, Loc W (Rg.none W) L O E w → Cur W.heap.size T w g → Calls P fn args.toArray w (DrewV T W.heap.size g w v K))
    (h : ∀ x, K x → SXl P n W (Rg.none W) ops L O E ((dn, v x) :: f) rest Q) : SXl P n W (Rg.none W) ops L O E f (⟨some dn, .call ⟨.value (.func fn), ars.toArray, aT⟩, ty, pos, af, gd⟩ :: rest) Q := by
  have hE : E.set i (curRes T W g) = E := by
    refine List.ext_getElem? fun j => ?_
    rw [List.getElem?_set]
    split
    · rename_i e
      subst e
      rw [hi]
      split
      · rfl
      · rename_i hlt
        have := (List.getElem?_eq_some_iff.1 hi).1
        exact (hlt this).elim
    · rfl
  refine SXl.callM (ξ := ξ) (v := v) (F' := fun _ => curRes T W g) i hw hd ha hi (fun _ _ h => h) K (fun w hl => ?_) (fun x hx => by rw [hE]; exact h x hx)
  have hmem : curRes T W g ∈ E := List.mem_iff_getElem?.2 ⟨i, hi⟩
  have hs := (hl.res _ hmem).1
  have hnew := hl.resNew _ hmem g rfl
  refine (hc w hl (cur_of hl.mod hs)).mono ?_
  rintro e w' ⟨x, he, hk, hm, hcur⟩
  refine ⟨x, he, hk, of_cur (fun k hk2 => ?_) hcur, hm⟩
  rw [hm.block k (Nat.lt_of_lt_of_le hk2 hl.mod.size) (fun e => by omega), hl.mod.block k hk2 (fun f => f)]
end
end Go.Proofs.YtkkjjhooamlljaaGreatDoor
namespace Go.Proofs.YtkkjjhooamlljaaGreatDoor

structure Space where
  mode : Int
  n : Int
  deriving DecidableEq, Inhabited
def Space.cells (s : Space) : List Value := [.int .i64 s.mode, .int .i64 s.n]

structure Asked where
  node : Int
  wide : Space
  high : Space
  rtl : Bool
  deriving DecidableEq, Inhabited
def Asked.cells (x : Asked) : List Value := [.int .i64 x.node, .int .i64 x.wide.mode, .int .i64 x.wide.n, .int .i64 x.high.mode, .int .i64 x.high.n, .bool x.rtl]

structure Rule where
  room : Int
  wide : Int
  high : Int
  deriving DecidableEq, Inhabited
def Rule.cells (x : Rule) : List Value := [.int .i64 x.room, .int .i64 x.wide, .int .i64 x.high]

structure Val where
  kind : Int
  n : Int
  deriving DecidableEq, Inhabited
def Val.cells (x : Val) : List Value := [.int .i64 x.kind, .int .i64 x.n]

structure ActD where
  kind : Int
  n : Int
  kid : Int
  pl : Int
  key : ByteArray
  value : Val
  table : List Rule
  wide : Int
  high : Int
  rtl : Bool
/-- An action's cells: the table is a slice. -/
def repAct (R : Nat → Prop) (w : World) (cs : List Value) (x : ActD) : Prop :=
  ∃ a c, cs = [.int .i64 x.kind, .int .i64 x.n, .int .i64 x.kid, .int .i64 x.pl, .string x.key, .int .i64 x.value.kind, .int .i64 x.value.n, .slice a x.table.length c, .int .i64 x.wide, .int .i64 x.high, .bool x.rtl] ∧ SliceAt (Flat Rule.cells) 3 R w a x.table
theorem repAct.mod {R S : Nat → Prop} {w w' : World} {cs : List Value} {x : ActD} (h : repAct R w cs x) (hm : Mod S w w') (hs : ∀ k, R k → ¬ S k) : repAct R w' cs x := by
  obtain ⟨a, c, h1, h2⟩ := h
  exact ⟨a, c, h1, h2.flatMod hm hs⟩

structure Frame where
  node : Int
  x : Int
  y : Int
  wide : Int
  high : Int
  deriving DecidableEq, Inhabited
def Frame.cells (f : Frame) : List Value := [.int .i64 f.node, .int .i64 f.x, .int .i64 f.y, .int .i64 f.wide, .int .i64 f.high]
structure Memo where
  node : Int
  wide : Space
  high : Space
  rtl : Bool
  bw : Int
  bh : Int
  bb : Int
  frames : List Frame
  deriving DecidableEq, Inhabited

end Go.Proofs.YtkkjjhooamlljaaGreatDoor
namespace Go.Proofs.YtkkjjhooamlljaaGreatDoor
open Go.RowKit

end Go.Proofs.YtkkjjhooamlljaaGreatDoor
namespace Go.Proofs.YtkkjjhooamlljaaGreatDoor
open Go.RowKit

structure Sides where
  left : Val
  top : Val
  right : Val
  bottom : Val
  start : Val
  stop : Val
  deriving DecidableEq, Inhabited
def Sides.cells (x : Sides) : List Value := [.int .i64 x.left.kind, .int .i64 x.left.n, .int .i64 x.top.kind, .int .i64 x.top.n, .int .i64 x.right.kind, .int .i64 x.right.n, .int .i64 x.bottom.kind, .int .i64 x.bottom.n, .int .i64 x.start.kind, .int .i64 x.start.n, .int .i64 x.stop.kind, .int .i64 x.stop.n]

structure Edges where
  left : Int
  top : Int
  right : Int
  bottom : Int
  deriving DecidableEq, Inhabited
def Edges.cells (x : Edges) : List Value := [.int .i64 x.left, .int .i64 x.top, .int .i64 x.right, .int .i64 x.bottom]

structure Style where
  dir : Int
  wrap : Int
  justify : Int
  items : Int
  self : Int
  content : Int
  apart : Bool
  hidden : Bool
  order : Int
  grow : Int
  shrink : Int
  basis : Val
  width : Val
  height : Val
  minWidth : Val
  minHeight : Val
  maxWidth : Val
  maxHeight : Val
  ratio : Int
  margin : Sides
  inset : Sides
  pad : Edges
  border : Edges
  rowGap : Int
  colGap : Int
  deriving DecidableEq, Inhabited
def Style.cells (x : Style) : List Value := [.int .i64 x.dir, .int .i64 x.wrap, .int .i64 x.justify, .int .i64 x.items, .int .i64 x.self, .int .i64 x.content, .bool x.apart, .bool x.hidden, .int .i64 x.order, .int .i64 x.grow, .int .i64 x.shrink, .int .i64 x.basis.kind, .int .i64 x.basis.n, .int .i64 x.width.kind, .int .i64 x.width.n, .int .i64 x.height.kind, .int .i64 x.height.n, .int .i64 x.minWidth.kind, .int .i64 x.minWidth.n, .int .i64 x.minHeight.kind, .int .i64 x.minHeight.n, .int .i64 x.maxWidth.kind, .int .i64 x.maxWidth.n, .int .i64 x.maxHeight.kind, .int .i64 x.maxHeight.n, .int .i64 x.ratio, .int .i64 x.margin.left.kind, .int .i64 x.margin.left.n, .int .i64 x.margin.top.kind, .int .i64 x.margin.top.n, .int .i64 x.margin.right.kind, .int .i64 x.margin.right.n, .int .i64 x.margin.bottom.kind, .int .i64 x.margin.bottom.n, .int .i64 x.margin.start.kind, .int .i64 x.margin.start.n, .int .i64 x.margin.stop.kind, .int .i64 x.margin.stop.n, .int .i64 x.inset.left.kind, .int .i64 x.inset.left.n, .int .i64 x.inset.top.kind, .int .i64 x.inset.top.n, .int .i64 x.inset.right.kind, .int .i64 x.inset.right.n, .int .i64 x.inset.bottom.kind, .int .i64 x.inset.bottom.n, .int .i64 x.inset.start.kind, .int .i64 x.inset.start.n, .int .i64 x.inset.stop.kind, .int .i64 x.inset.stop.n, .int .i64 x.pad.left, .int .i64 x.pad.top, .int .i64 x.pad.right, .int .i64 x.pad.bottom, .int .i64 x.border.left, .int .i64 x.border.top, .int .i64 x.border.right, .int .i64 x.border.bottom, .int .i64 x.rowGap, .int .i64 x.colGap]

end Go.Proofs.YtkkjjhooamlljaaGreatDoor
namespace Go.Proofs.YtkkjjhooamlljaaGreatDoor
open Go.RowKit
set_option linter.unusedVariables false
set_option linter.unusedSimpArgs false

/-- A cell that holds an int holds one of 64 bits. -/
def CellOk (v : Value) : Prop := ∀ n : Int, v = .int .i64 n → I64 n
def AllOk (c : List Value) : Prop := ∀ v ∈ c, CellOk v
theorem cellOk_int {n : Int} (h : I64 n) : CellOk (.int .i64 n) := fun m e => by cases e; exact h
theorem AllOk.set {c : List Value} (h : AllOk c) {v : Value} (hv : CellOk v) (j : Nat) : AllOk (c.set j v) := fun u hu => by
  rcases List.mem_or_eq_of_mem_set hu with hu | rfl
  · exact h u hu
  · exact hv
theorem AllOk.over : ∀ {r c : List Value} {j : Nat}, AllOk c → AllOk r → AllOk (over c j r)
  | [], _, _, h, _ => h
  | v :: r, c, j, h, hr => AllOk.over (r := r) (h.set (hr v List.mem_cons_self) j) (fun u hu => hr u (List.mem_cons_of_mem _ hu))
theorem SXl.drop1 {P : Program} {n : Nat} {W : World} {R : Rg W} {L : List Blk} {O : List Own} {E : List Res} {f : List (Nat × Value)} {Q : Exit → Go.Act → World → Prop} {ops : Array Oper} {rest : List Oper} {b : Blk} (h : SXl P n W R ops L O E f rest Q) : SXl P n W R ops (b :: L) O E f rest Q := ⟨fun a w hf hl => h.run a w hf hl.drop1⟩

theorem below_d (B gc : Nat) (w : World) (hc : Cur B 100 w gc) (n : Int) (h0 : 0 < n) (h1 : n ≤ 1000000000) : Calls Tryz.prog 53 #[.pointer (some ⟨gc, 0, none⟩), .int .i64 n] w (DrewV 100 B gc w (fun x : Int => .int .i64 x) (fun x => 0 ≤ x ∧ x < n)) :=
  (l01Below_any B gc w hc n h1).mono fun e w' ⟨x, hx, he, hc, hm⟩ => ⟨x, he, by omega, hm, hc⟩
theorem once_d (B gc : Nat) (w : World) (hc : Cur B 100 w gc) (n : Int) (h1 : n ≤ 1000000000) : Calls Tryz.prog 55 #[.pointer (some ⟨gc, 0, none⟩), .int .i64 n] w (DrewV 100 B gc w (fun b : Bool => .bool b) (fun _ => True)) :=
  (l01Once_any B gc w hc n h1).mono fun e w' ⟨b, he, hc, hm⟩ => ⟨b, he, trivial, hm, hc⟩
theorem pick_d {W : World} {B gc b : Nat} {hg : gc < W.heap.size} {hB : B ≤ gc} {L : List Blk} {O : List Own} {E : List Res} {w : World} {l : List Int} (hl : Loc W (curRg 100 B gc W hg hB) (⟨b, l.map (.int .i64), 3⟩ :: L) O E w) (h0 : 0 < l.length) (h1 : l.length ≤ 1000) :
    Calls Tryz.prog 101 #[.pointer (some ⟨gc, 0, none⟩), .slice (some ⟨b, 0, none⟩) l.length l.length] w (DrewV 100 B gc w (fun x : Int => .int .i64 x) (fun x => x ∈ l)) := by
  obtain ⟨hb, hcell⟩ := hl.blk _ (.head _)
  have hne : b ≠ gc := by
    rcases hb with h | h
    · exact h.elim
    · simp only at h; omega
  refine (l01PickInt_any B gc w hl.inv b l.length l (fun i hi => ?_) h0 h1 hne).mono fun e w' h => Drew.v h
  have := blk_cell (j := i) (v := .int .i64 (l.getD i 0)) hcell (by simp [List.getElem?_eq_getElem hi, List.getD, hi])
  rw [Nat.zero_add]
  exact this

set_option maxRecDepth 100000 in
set_option maxHeartbeats 8000000 in
theorem l02Int_d (B gc : Nat) (w : World) (hc : Cur B 100 w gc) : Calls Tryz.prog 86 #[.pointer (some ⟨gc, 0, none⟩)] w (DrewV 100 B gc w (fun x : Int => .int .i64 x) (fun x => I64 x)) := by
  refine calls_draw (as_ := [.pointer (some ⟨gc, 0, none⟩)]) hc Tryz.func86 rfl rfl (fun a h1 h2 h3 => ((Fr.nil h1 h2).arg (h3 0 _ rfl))) ?_
  repeat (first | refine qap ?_ | refine qak ?_ | refine qaf ?_ | refine qab ?_ | (refine qau ?_; (refine qaa (qaj rfl) rfl ?_ ?_ ?_); rfl; rfl) | (refine qai ?_; (refine qaa (qae rfl) rfl ?_ ?_ ?_); rfl; rfl))
  refine qaA ?_
  refine SXl.draw (ξ := Int) (v := fun x : Int => .int .i64 x) rfl rfl rfl (fun x => 0 ≤ x ∧ x < 6) (fun w hl => below_d B gc w hl.inv 6 (by decide) (by decide)) (fun x hx => ?_)
  by_cases h0 : x = 0
  · repeat (first | refine qap ?_ | refine qak ?_ | refine qaf ?_ | refine qab ?_ | refine SX.block ?_ | refine qao rfl ?_ | (refine qau ?_; (refine qaa (qaj rfl) rfl ?_ ?_ ?_); rfl; rfl) | (refine qai ?_; (refine qaa (qae rfl) rfl ?_ ?_ ?_); rfl; rfl) | (refine qaK ?_; (refine qaa (qaI rfl rfl (by omega)) rfl ?_ ?_ ?_); rfl; rfl))
    refine qaG ?_
    refine SXl.lit (cells := [.int .i64 0, .int .i64 1, .int .i64 (-1), .int .i64 64, .int .i64 1048576, .int .i64 1048577, .int .i64 (-1048576), .int .i64 (-1048577), .int .i64 9223372036854775807, .int .i64 (-9223372036854775808)]) (z := .int .i64 0) ?_ ?_ rfl (by decide) (by kernel_rfl) rfl (fun gl => ?_)
    rfl; rfl
    skip
    refine qaA ?_
    refine SXl.draw (ξ := Int) (v := fun x => .int .i64 x) rfl rfl rfl (fun x => x ∈ ([0, 1, -1, 64, 1048576, 1048577, -1048576, -1048577, 9223372036854775807, -9223372036854775808] : List Int)) (fun w hl => pick_d (l := [0, 1, -1, 64, 1048576, 1048577, -1048576, -1048577, 9223372036854775807, -9223372036854775808]) hl (by decide) (by decide)) (fun y hy => ?_)
    repeat (first | refine qak ?_ | refine qab ?_ | (refine qai ?_; (refine qaa (qae rfl) rfl ?_ ?_ ?_); rfl; rfl) | refine qav ?_ | refine qan ?_ | refine qaw ?_)
    refine qaC rfl rfl (fun w' hl => ⟨_, rfl, by simp at hy; exact ⟨by omega, by omega⟩, hl.mod, hl.inv⟩)
  by_cases h1 : x = 1
  · repeat (first | refine qap ?_ | refine qak ?_ | refine qaf ?_ | refine qab ?_ | refine SX.block ?_ | refine qao rfl ?_ | refine qas rfl ?_ | (refine qau ?_; (refine qaa (qaj rfl) rfl ?_ ?_ ?_); rfl; rfl) | (refine qai ?_; (refine qaa (qae rfl) rfl ?_ ?_ ?_); rfl; rfl) | (refine qaK ?_; (first | refine qaa (qaI rfl rfl (by omega)) rfl ?_ ?_ ?_ | refine qaa (qaH rfl rfl (by omega)) rfl ?_ ?_ ?_); rfl; rfl))
    refine qaA ?_
    refine SXl.draw (ξ := Int) (v := fun x : Int => .int .i64 x) rfl rfl rfl (fun x => 0 ≤ x ∧ x < 5000) (fun w hl => below_d B gc w hl.inv 5000 (by decide) (by decide)) (fun y hy => ?_)
    repeat (first | refine qak ?_ | refine qab ?_ | (refine l_neg ?_; (refine qaa ((OpW.negi rfl (by omega) (by omega))) rfl ?_ ?_ ?_); rfl; rfl) | (refine qai ?_; (refine qaa (qae rfl) rfl ?_ ?_ ?_); rfl; rfl) | refine qav ?_ | refine qan ?_ | refine qaw ?_)
    refine qaC rfl rfl (fun w' hl => ⟨_, rfl, ⟨by omega, by omega⟩, hl.mod, hl.inv⟩)
  repeat (first | refine qap ?_ | refine qak ?_ | refine qaf ?_ | refine qab ?_ | refine SX.block ?_ | refine qaE ?_ | refine qas rfl ?_ | (refine qau ?_; (refine qaa (qaj rfl) rfl ?_ ?_ ?_); rfl; rfl) | (refine qai ?_; (refine qaa (qae rfl) rfl ?_ ?_ ?_); rfl; rfl) | (refine qaK ?_; (refine qaa (qaH rfl rfl (by omega)) rfl ?_ ?_ ?_); rfl; rfl) | refine qar ?_)
  refine qaA ?_
  refine SXl.draw (ξ := Int) (v := fun x : Int => .int .i64 x) rfl rfl rfl (fun x => 0 ≤ x ∧ x < 8000) (fun w hl => below_d B gc w hl.inv 8000 (by decide) (by decide)) (fun y hy => ?_)
  repeat (first | refine qak ?_ | refine qab ?_ | (refine qai ?_; (refine qaa (qae rfl) rfl ?_ ?_ ?_); rfl; rfl) | refine qav ?_)
  refine qaC rfl rfl (fun w' hl => ⟨_, rfl, ⟨by omega, by omega⟩, hl.mod, hl.inv⟩)

set_option maxRecDepth 100000 in
set_option maxHeartbeats 8000000 in
theorem l04Value_d (B gc : Nat) (w : World) (hc : Cur B 100 w gc) : Calls Tryz.prog 117 #[.pointer (some ⟨gc, 0, none⟩)] w (DrewV 100 B gc w (fun v : Val => .agg v.cells.toArray) (fun v => AllOk v.cells)) := by
  refine calls_draw (as_ := [.pointer (some ⟨gc, 0, none⟩)]) hc Tryz.func117 rfl rfl (fun a h1 h2 h3 => ((Fr.nil h1 h2).arg (h3 0 _ rfl))) ?_
  repeat (first | refine qap ?_ | refine qak ?_ | refine qaf ?_ | refine qab ?_ | (refine qau ?_; (refine qaa (qaj rfl) rfl ?_ ?_ ?_); rfl; rfl) | (refine qaT ?_; refine SXl.alloc ?_ ?_ (fun g => ?_); rfl; rfl))
  refine qaA ?_
  refine SXl.draw (ξ := Int) (v := fun x : Int => .int .i64 x) rfl rfl rfl (fun x => 0 ≤ x ∧ x < 6) (fun w hl => below_d B gc w hl.inv 6 (by decide) (by decide)) (fun x hx => ?_)
  by_cases h0 : x = 0
  · repeat (first | refine qap ?_ | refine qak ?_ | refine qaf ?_ | refine qab ?_ | refine SX.block ?_ | refine qao rfl ?_ | (refine qau ?_; (refine qaa (qaj rfl) rfl ?_ ?_ ?_); rfl; rfl) | (refine qai ?_; (refine qaa (qae rfl) rfl ?_ ?_ ?_); rfl; rfl) | (refine qaK ?_; (refine qaa (qaI rfl rfl (by omega)) rfl ?_ ?_ ?_); rfl; rfl))
    refine qaG ?_
    refine SXl.lit (cells := [.int .i64 0, .int .i64 10, .int .i64 25, .int .i64 50, .int .i64 100, .int .i64 150, .int .i64 33]) (z := .int .i64 0) ?_ ?_ rfl (by decide) (by kernel_rfl) rfl (fun gl => ?_)
    rfl; rfl
    skip
    refine qaA ?_
    refine SXl.draw (ξ := Int) (v := fun x => .int .i64 x) rfl rfl rfl (fun x => x ∈ ([0, 10, 25, 50, 100, 150, 33] : List Int)) (fun w hl => pick_d (l := [0, 10, 25, 50, 100, 150, 33]) hl (by decide) (by decide)) (fun y hy => ?_)
    refine SXl.drop1 ?_
    have hy2 : 0 ≤ y ∧ y ≤ 150 := by simp at hy; omega
    repeat (first | refine qak ?_ | refine qab ?_ | (refine qaO ?_; (refine qaa ((qaz (vals := [(0, .int .i64 2), (1, .int .i64 y)]) (cells := [.int .i64 2, .int .i64 y]) rfl (by kernel_rfl))) rfl ?_ ?_ ?_); rfl; rfl) | (refine qaD ?_; first | ((first | refine qad 0 ?_ rfl rfl rfl rfl rfl rfl rfl ?_ | refine qad 1 ?_ rfl rfl rfl rfl rfl rfl rfl ?_ | refine qad 2 ?_ rfl rfl rfl rfl rfl rfl rfl ?_); rfl; simp only [List.set_cons_zero, List.set_cons_succ]) | ((first | refine qac 0 ?_ rfl rfl rfl rfl rfl rfl rfl ?_ | refine qac 1 ?_ rfl rfl rfl rfl rfl rfl rfl ?_ | refine qac 2 ?_ rfl rfl rfl rfl rfl rfl rfl ?_); rfl; simp only [over, List.set_cons_zero, List.set_cons_succ])) | refine qav ?_ | refine qan ?_ | refine qaw ?_)
    refine qaN 0 rfl rfl rfl rfl (fun w' hl => ⟨⟨2, y⟩, rfl, (by intro u hu; simp [Val.cells] at hu; rcases hu with rfl | rfl <;> exact cellOk_int ⟨by omega, by omega⟩), hl.mod, hl.inv⟩)
  by_cases h12 : x = 1 ∨ x = 2
  · have hz2 : ∀ z : Int, 0 ≤ z ∧ z < 3000 → ∀ y : Int, y ∈ ([0, 64, 100, 640, 1000, 33, z] : List Int) → 0 ≤ y ∧ y ≤ 3000 := fun z hz y hy => by simp at hy; omega
    rcases h12 with h12 | h12
    · repeat (first | refine qap ?_ | refine qak ?_ | refine qaf ?_ | refine qab ?_ | refine SX.block ?_ | refine qaE ?_ | refine qao rfl ?_ | refine qas rfl ?_ | (refine qau ?_; (refine qaa (qaj rfl) rfl ?_ ?_ ?_); rfl; rfl) | (refine qai ?_; (refine qaa (qae rfl) rfl ?_ ?_ ?_); rfl; rfl) | (refine qaK ?_; (first | refine qaa (qaI rfl rfl (by omega)) rfl ?_ ?_ ?_ | refine qaa (qaH rfl rfl (by omega)) rfl ?_ ?_ ?_); rfl; rfl))
      refine qaA ?_
      refine SXl.draw (ξ := Int) (v := fun x : Int => .int .i64 x) rfl rfl rfl (fun x => 0 ≤ x ∧ x < 3000) (fun w hl => below_d B gc w hl.inv 3000 (by decide) (by decide)) (fun z hz => ?_)
      skip
      refine qaG ?_
      refine SXl.lit (cells := [.int .i64 0, .int .i64 64, .int .i64 100, .int .i64 640, .int .i64 1000, .int .i64 33, .int .i64 z]) (z := .int .i64 0) ?_ ?_ rfl (by decide) (by kernel_rfl) rfl (fun gl => ?_)
      rfl; rfl
      skip
      refine qaA ?_
      refine SXl.draw (ξ := Int) (v := fun x => .int .i64 x) rfl rfl rfl (fun x => x ∈ ([0, 64, 100, 640, 1000, 33, z] : List Int)) (fun w hl => pick_d (l := [0, 64, 100, 640, 1000, 33, z]) hl (by simp) (by simp)) (fun y hy => ?_)
      refine SXl.drop1 ?_
      have hy2 := hz2 z hz y hy
      repeat (first | refine qak ?_ | refine qab ?_ | (refine qaO ?_; (refine qaa ((qaz (vals := [(0, .int .i64 1), (1, .int .i64 y)]) (cells := [.int .i64 1, .int .i64 y]) rfl (by kernel_rfl))) rfl ?_ ?_ ?_); rfl; rfl) | (refine qaD ?_; first | ((first | refine qad 0 ?_ rfl rfl rfl rfl rfl rfl rfl ?_ | refine qad 1 ?_ rfl rfl rfl rfl rfl rfl rfl ?_ | refine qad 2 ?_ rfl rfl rfl rfl rfl rfl rfl ?_); rfl; simp only [List.set_cons_zero, List.set_cons_succ]) | ((first | refine qac 0 ?_ rfl rfl rfl rfl rfl rfl rfl ?_ | refine qac 1 ?_ rfl rfl rfl rfl rfl rfl rfl ?_ | refine qac 2 ?_ rfl rfl rfl rfl rfl rfl rfl ?_); rfl; simp only [over, List.set_cons_zero, List.set_cons_succ])) | refine qav ?_ | refine qan ?_ | refine qaw ?_)
      refine qaN 0 rfl rfl rfl rfl (fun w' hl => ⟨⟨1, y⟩, rfl, (by intro u hu; simp [Val.cells] at hu; rcases hu with rfl | rfl <;> exact cellOk_int ⟨by omega, by omega⟩), hl.mod, hl.inv⟩)
    · repeat (first | refine qap ?_ | refine qak ?_ | refine qaf ?_ | refine qab ?_ | refine SX.block ?_ | refine qao rfl ?_ | refine qas rfl ?_ | (refine qau ?_; (refine qaa (qaj rfl) rfl ?_ ?_ ?_); rfl; rfl) | (refine qai ?_; (refine qaa (qae rfl) rfl ?_ ?_ ?_); rfl; rfl) | (refine qaK ?_; (first | refine qaa (qaI rfl rfl (by omega)) rfl ?_ ?_ ?_ | refine qaa (qaH rfl rfl (by omega)) rfl ?_ ?_ ?_); rfl; rfl))
      refine qaA ?_
      refine SXl.draw (ξ := Int) (v := fun x : Int => .int .i64 x) rfl rfl rfl (fun x => 0 ≤ x ∧ x < 3000) (fun w hl => below_d B gc w hl.inv 3000 (by decide) (by decide)) (fun z hz => ?_)
      skip
      refine qaG ?_
      refine SXl.lit (cells := [.int .i64 0, .int .i64 64, .int .i64 100, .int .i64 640, .int .i64 1000, .int .i64 33, .int .i64 z]) (z := .int .i64 0) ?_ ?_ rfl (by decide) (by kernel_rfl) rfl (fun gl => ?_)
      rfl; rfl
      skip
      refine qaA ?_
      refine SXl.draw (ξ := Int) (v := fun x => .int .i64 x) rfl rfl rfl (fun x => x ∈ ([0, 64, 100, 640, 1000, 33, z] : List Int)) (fun w hl => pick_d (l := [0, 64, 100, 640, 1000, 33, z]) hl (by simp) (by simp)) (fun y hy => ?_)
      refine SXl.drop1 ?_
      have hy2 := hz2 z hz y hy
      repeat (first | refine qak ?_ | refine qab ?_ | (refine qaO ?_; (refine qaa ((qaz (vals := [(0, .int .i64 1), (1, .int .i64 y)]) (cells := [.int .i64 1, .int .i64 y]) rfl (by kernel_rfl))) rfl ?_ ?_ ?_); rfl; rfl) | (refine qaD ?_; first | ((first | refine qad 0 ?_ rfl rfl rfl rfl rfl rfl rfl ?_ | refine qad 1 ?_ rfl rfl rfl rfl rfl rfl rfl ?_ | refine qad 2 ?_ rfl rfl rfl rfl rfl rfl rfl ?_); rfl; simp only [List.set_cons_zero, List.set_cons_succ]) | ((first | refine qac 0 ?_ rfl rfl rfl rfl rfl rfl rfl ?_ | refine qac 1 ?_ rfl rfl rfl rfl rfl rfl rfl ?_ | refine qac 2 ?_ rfl rfl rfl rfl rfl rfl rfl ?_); rfl; simp only [over, List.set_cons_zero, List.set_cons_succ])) | refine qav ?_ | refine qan ?_ | refine qaw ?_)
      refine qaN 0 rfl rfl rfl rfl (fun w' hl => ⟨⟨1, y⟩, rfl, (by intro u hu; simp [Val.cells] at hu; rcases hu with rfl | rfl <;> exact cellOk_int ⟨by omega, by omega⟩), hl.mod, hl.inv⟩)
  repeat (first | refine qap ?_ | refine qak ?_ | refine qaf ?_ | refine qab ?_ | refine SX.block ?_ | refine qaE ?_ | refine qas rfl ?_ | (refine qaO ?_; (refine qaa ((qaz (vals := []) (cells := [.int .i64 0, .int .i64 0]) rfl (by kernel_rfl))) rfl ?_ ?_ ?_); rfl; rfl) | (refine qai ?_; (refine qaa (qae rfl) rfl ?_ ?_ ?_); rfl; rfl) | (refine qaK ?_; (refine qaa (qaH rfl rfl (by omega)) rfl ?_ ?_ ?_); rfl; rfl) | (refine qaD ?_; first | ((first | refine qad 0 ?_ rfl rfl rfl rfl rfl rfl rfl ?_ | refine qad 1 ?_ rfl rfl rfl rfl rfl rfl rfl ?_ | refine qad 2 ?_ rfl rfl rfl rfl rfl rfl rfl ?_); rfl; simp only [List.set_cons_zero, List.set_cons_succ]) | ((first | refine qac 0 ?_ rfl rfl rfl rfl rfl rfl rfl ?_ | refine qac 1 ?_ rfl rfl rfl rfl rfl rfl rfl ?_ | refine qac 2 ?_ rfl rfl rfl rfl rfl rfl rfl ?_); rfl; simp only [over, List.set_cons_zero, List.set_cons_succ])) | refine qav ?_ | refine qar ?_)
  refine qaN 0 rfl rfl rfl rfl (fun w' hl => ⟨⟨0, 0⟩, rfl, (by intro u hu; simp [Val.cells] at hu; rcases hu with rfl | rfl <;> exact cellOk_int ⟨by omega, by omega⟩), hl.mod, hl.inv⟩)

set_option maxRecDepth 100000 in
set_option maxHeartbeats 8000000 in
theorem l04Any_d (B gc : Nat) (w : World) (hc : Cur B 100 w gc) : Calls Tryz.prog 102 #[.pointer (some ⟨gc, 0, none⟩)] w (DrewV 100 B gc w (fun v : Val => .agg v.cells.toArray) (fun v => AllOk v.cells)) := by
  refine calls_draw (as_ := [.pointer (some ⟨gc, 0, none⟩)]) hc Tryz.func102 rfl rfl (fun a h1 h2 h3 => ((Fr.nil h1 h2).arg (h3 0 _ rfl))) ?_
  repeat (first | refine qap ?_ | refine qak ?_ | refine qaf ?_ | refine qab ?_ | (refine qau ?_; (refine qaa (qaj rfl) rfl ?_ ?_ ?_); rfl; rfl) | (refine qaT ?_; refine SXl.alloc ?_ ?_ (fun g => ?_); rfl; rfl))
  refine qaA ?_
  refine SXl.draw (ξ := Val) (v := fun v => .agg v.cells.toArray) rfl rfl rfl (fun v => AllOk v.cells) (fun w hl => l04Value_d B gc w hl.inv) (fun v hv => ?_)
  repeat (first | refine qap ?_ | refine qak ?_ | refine qaf ?_ | refine qab ?_ | (refine qau ?_; (refine qaa (qaj rfl) rfl ?_ ?_ ?_); rfl; rfl) | (refine qaT ?_; refine SXl.alloc ?_ ?_ (fun g => ?_); rfl; rfl) | (refine qaD ?_; first | ((first | refine qah 0 ?_ rfl rfl rfl rfl rfl rfl ?_ | refine qah 1 ?_ rfl rfl rfl rfl rfl rfl ?_ | refine qah 2 ?_ rfl rfl rfl rfl rfl rfl ?_); rfl; simp only [List.set_cons_zero, List.set_cons_succ]) | ((first | refine qad 0 ?_ rfl rfl rfl rfl rfl rfl rfl ?_ | refine qad 1 ?_ rfl rfl rfl rfl rfl rfl rfl ?_ | refine qad 2 ?_ rfl rfl rfl rfl rfl rfl rfl ?_); rfl; simp only [List.set_cons_zero, List.set_cons_succ]) | ((first | refine qac 0 ?_ rfl rfl rfl rfl rfl rfl rfl ?_ | refine qac 1 ?_ rfl rfl rfl rfl rfl rfl rfl ?_ | refine qac 2 ?_ rfl rfl rfl rfl rfl rfl rfl ?_); rfl; simp only [over, List.set_cons_zero, List.set_cons_succ])))
  refine qaA ?_
  refine SXl.draw (ξ := Int) (v := fun x : Int => .int .i64 x) rfl rfl rfl (fun x => 0 ≤ x ∧ x < 10) (fun w hl => below_d B gc w hl.inv 10 (by decide) (by decide)) (fun x hx => ?_)
  have hk : I64 v.kind := hv _ (.head _) _ rfl
  have hn : I64 v.n := hv _ (.tail _ (.head _)) _ rfl
  obtain ⟨k1, k2⟩ := hk
  obtain ⟨n1, n2⟩ := hn
  by_cases h0 : x = 0
  · repeat (first | refine qap ?_ | refine qak ?_ | refine qaf ?_ | refine qab ?_ | refine SX.block ?_ | refine qao rfl ?_ | (refine qau ?_; (refine qaa (qaj rfl) rfl ?_ ?_ ?_); rfl; rfl) | (refine qai ?_; (refine qaa (qae rfl) rfl ?_ ?_ ?_); rfl; rfl) | (refine qaK ?_; (refine qaa (qaI rfl rfl (by omega)) rfl ?_ ?_ ?_); rfl; rfl))
    refine qaA ?_
    refine SXl.draw (ξ := Int) (v := fun x : Int => .int .i64 x) rfl rfl rfl (fun x => 0 ≤ x ∧ x < 6) (fun w hl => below_d B gc w hl.inv 6 (by decide) (by decide)) (fun y hy => ?_)
    repeat (first | refine qap ?_ | refine qak ?_ | refine qaf ?_ | refine qab ?_ | (refine qaF ?_; (refine qaa (qaq 0 rfl rfl rfl) rfl ?_ ?_ ?_); rfl; rfl) | (refine qam ?_; (refine qaa (qag rfl) rfl ?_ ?_ ?_); rfl; rfl) | (refine l_sub ?_; (refine qaa (OpW.subi rfl rfl (by omega) (by omega)) rfl ?_ ?_ ?_); rfl; rfl) | (refine qaD ?_; first | ((first | refine qah 0 ?_ rfl rfl rfl rfl rfl rfl ?_ | refine qah 1 ?_ rfl rfl rfl rfl rfl rfl ?_ | refine qah 2 ?_ rfl rfl rfl rfl rfl rfl ?_); rfl; simp only [List.set_cons_zero, List.set_cons_succ]) | ((first | refine qad 0 ?_ rfl rfl rfl rfl rfl rfl rfl ?_ | refine qad 1 ?_ rfl rfl rfl rfl rfl rfl rfl ?_ | refine qad 2 ?_ rfl rfl rfl rfl rfl rfl rfl ?_); rfl; simp only [List.set_cons_zero, List.set_cons_succ]) | ((first | refine qac 0 ?_ rfl rfl rfl rfl rfl rfl rfl ?_ | refine qac 1 ?_ rfl rfl rfl rfl rfl rfl rfl ?_ | refine qac 2 ?_ rfl rfl rfl rfl rfl rfl rfl ?_); rfl; simp only [over, List.set_cons_zero, List.set_cons_succ])) | refine qav ?_ | refine qar ?_)
    refine qaN 1 rfl rfl rfl rfl (fun w' hl => ⟨⟨y - 1, v.n⟩, rfl, (by intro u hu; simp [Val.cells] at hu; rcases hu with rfl | rfl <;> exact cellOk_int ⟨by omega, by omega⟩), hl.mod, hl.inv⟩)
  by_cases h1 : x = 1
  · repeat (first | refine qap ?_ | refine qak ?_ | refine qaf ?_ | refine qab ?_ | refine SX.block ?_ | refine qao rfl ?_ | refine qas rfl ?_ | (refine qau ?_; (refine qaa (qaj rfl) rfl ?_ ?_ ?_); rfl; rfl) | (refine qai ?_; (refine qaa (qae rfl) rfl ?_ ?_ ?_); rfl; rfl) | (refine qaK ?_; (first | refine qaa (qaI rfl rfl (by omega)) rfl ?_ ?_ ?_ | refine qaa (qaH rfl rfl (by omega)) rfl ?_ ?_ ?_); rfl; rfl))
    refine qaA ?_
    refine SXl.draw (ξ := Int) (v := fun x => .int .i64 x) rfl rfl rfl (fun x => I64 x) (fun w hl => l02Int_d B gc w hl.inv) (fun y hy => ?_)
    obtain ⟨y1, y2⟩ := hy
    repeat (first | refine qap ?_ | refine qak ?_ | refine qaf ?_ | refine qab ?_ | (refine qaF ?_; (refine qaa (qaq 0 rfl rfl rfl) rfl ?_ ?_ ?_); rfl; rfl) | (refine qam ?_; (refine qaa (qag rfl) rfl ?_ ?_ ?_); rfl; rfl) | (refine qaD ?_; first | ((first | refine qah 0 ?_ rfl rfl rfl rfl rfl rfl ?_ | refine qah 1 ?_ rfl rfl rfl rfl rfl rfl ?_ | refine qah 2 ?_ rfl rfl rfl rfl rfl rfl ?_); rfl; simp only [List.set_cons_zero, List.set_cons_succ]) | ((first | refine qad 0 ?_ rfl rfl rfl rfl rfl rfl rfl ?_ | refine qad 1 ?_ rfl rfl rfl rfl rfl rfl rfl ?_ | refine qad 2 ?_ rfl rfl rfl rfl rfl rfl rfl ?_); rfl; simp only [List.set_cons_zero, List.set_cons_succ]) | ((first | refine qac 0 ?_ rfl rfl rfl rfl rfl rfl rfl ?_ | refine qac 1 ?_ rfl rfl rfl rfl rfl rfl rfl ?_ | refine qac 2 ?_ rfl rfl rfl rfl rfl rfl rfl ?_); rfl; simp only [over, List.set_cons_zero, List.set_cons_succ])) | refine qav ?_ | refine qar ?_)
    refine qaN 1 rfl rfl rfl rfl (fun w' hl => ⟨⟨v.kind, y⟩, rfl, (by intro u hu; simp [Val.cells] at hu; rcases hu with rfl | rfl <;> exact cellOk_int ⟨by omega, by omega⟩), hl.mod, hl.inv⟩)
  by_cases h2 : x = 2
  · repeat (first | refine qap ?_ | refine qak ?_ | refine qaf ?_ | refine qab ?_ | refine SX.block ?_ | refine qao rfl ?_ | refine qas rfl ?_ | (refine qaO ?_; (refine qaa ((qaz (vals := [(0, .int .i64 3)]) (cells := [.int .i64 3, .int .i64 0]) rfl (by kernel_rfl))) rfl ?_ ?_ ?_); rfl; rfl) | (refine qaF ?_; (refine qaa (qaq 0 rfl rfl rfl) rfl ?_ ?_ ?_); rfl; rfl) | (refine qai ?_; (refine qaa (qae rfl) rfl ?_ ?_ ?_); rfl; rfl) | (refine qaK ?_; (first | refine qaa (qaI rfl rfl (by omega)) rfl ?_ ?_ ?_ | refine qaa (qaH rfl rfl (by omega)) rfl ?_ ?_ ?_); rfl; rfl) | (refine qaD ?_; first | ((first | refine qah 0 ?_ rfl rfl rfl rfl rfl rfl ?_ | refine qah 1 ?_ rfl rfl rfl rfl rfl rfl ?_ | refine qah 2 ?_ rfl rfl rfl rfl rfl rfl ?_); rfl; simp only [List.set_cons_zero, List.set_cons_succ]) | ((first | refine qad 0 ?_ rfl rfl rfl rfl rfl rfl rfl ?_ | refine qad 1 ?_ rfl rfl rfl rfl rfl rfl rfl ?_ | refine qad 2 ?_ rfl rfl rfl rfl rfl rfl rfl ?_); rfl; simp only [List.set_cons_zero, List.set_cons_succ]) | ((first | refine qac 0 ?_ rfl rfl rfl rfl rfl rfl rfl ?_ | refine qac 1 ?_ rfl rfl rfl rfl rfl rfl rfl ?_ | refine qac 2 ?_ rfl rfl rfl rfl rfl rfl rfl ?_); rfl; simp only [over, List.set_cons_zero, List.set_cons_succ])) | refine qav ?_ | refine qar ?_)
    refine qaN 1 rfl rfl rfl rfl (fun w' hl => ⟨⟨3, 0⟩, rfl, (by intro u hu; simp [Val.cells] at hu; rcases hu with rfl | rfl <;> exact cellOk_int ⟨by omega, by omega⟩), hl.mod, hl.inv⟩)
  repeat (first | refine qap ?_ | refine qak ?_ | refine qaf ?_ | refine qab ?_ | refine SX.block ?_ | refine qaE ?_ | refine qas rfl ?_ | (refine qaF ?_; (refine qaa (qaq 0 rfl rfl rfl) rfl ?_ ?_ ?_); rfl; rfl) | (refine qai ?_; (refine qaa (qae rfl) rfl ?_ ?_ ?_); rfl; rfl) | (refine qaK ?_; (refine qaa (qaH rfl rfl (by omega)) rfl ?_ ?_ ?_); rfl; rfl) | (refine qaD ?_; first | ((first | refine qah 0 ?_ rfl rfl rfl rfl rfl rfl ?_ | refine qah 1 ?_ rfl rfl rfl rfl rfl rfl ?_ | refine qah 2 ?_ rfl rfl rfl rfl rfl rfl ?_); rfl; simp only [List.set_cons_zero, List.set_cons_succ]) | ((first | refine qad 0 ?_ rfl rfl rfl rfl rfl rfl rfl ?_ | refine qad 1 ?_ rfl rfl rfl rfl rfl rfl rfl ?_ | refine qad 2 ?_ rfl rfl rfl rfl rfl rfl rfl ?_); rfl; simp only [List.set_cons_zero, List.set_cons_succ]) | ((first | refine qac 0 ?_ rfl rfl rfl rfl rfl rfl rfl ?_ | refine qac 1 ?_ rfl rfl rfl rfl rfl rfl rfl ?_ | refine qac 2 ?_ rfl rfl rfl rfl rfl rfl rfl ?_); rfl; simp only [over, List.set_cons_zero, List.set_cons_succ])) | refine qav ?_ | refine qar ?_)
  refine qaN 1 rfl rfl rfl rfl (fun w' hl => ⟨⟨v.kind, v.n⟩, rfl, (by intro u hu; simp [Val.cells] at hu; rcases hu with rfl | rfl <;> exact cellOk_int ⟨by omega, by omega⟩), hl.mod, hl.inv⟩)
end Go.Proofs.YtkkjjhooamlljaaGreatDoor
namespace Go.Proofs.YtkkjjhooamlljaaGreatDoor
open Go.RowKit

/-- What a block that a pointer names is. -/
def gOf (v : Value) : Nat := match v with
  | .pointer (some a) => a.block
  | _ => 0
/-- Only a new block of the cells z may turn, to the cells r. -/
def TQ (B T0 : Nat) (z r : List Value) (w w' : World) : Prop := Mod (fun k => B ≤ k ∧ w.heap[k]? = some (.cells z.toArray T0 (0, 0)) ∧ w'.heap[k]? = some (.cells r.toArray T0 (0, 0))) w w'
structure Far (W : World) (L : List Blk) (O : List Own) (E : List Res) (B : Nat) : Prop where
  old : W.heap.size ≤ B
  blk : ∀ b ∈ L, b.g < B
  own : ∀ o ∈ O, ∀ k, o.v.ownBlock = some k → k < B
  res : ∀ F ∈ E, ∀ k, F.foot k → k < B
section
variable {P : Program} {n : Nat} {W : World} {R : Rg W} {L : List Blk} {O : List Own} {E : List Res} {w w' : World} {B T0 : Nat} {z r : List Value}
theorem Loc.far (h : Loc W R L O E w) : Far W L O E w.heap.size := ⟨h.mod.size, fun b hb => h.blk_lt hb, fun o ho k hk => (ownBlock_lt (h.own o ho).1 hk).2, fun F hF k hk => (h.res F hF).2.1 k hk⟩
theorem Loc.keepQ (hf : Far W L O E B) (h : Loc W R L O E w) (hm : TQ B T0 z r w w') : Loc W R L O E w' :=
  h.frame hm (fun k hk hs => by have := hf.old; have := hs.1; omega) (fun b hb hs => by have := hf.blk b hb; have := hs.1; omega) (fun o ho k hk hs => by have := hf.own o ho k hk; have := hs.1; omega) (fun F hF k hk hs => by have := hf.res F hF k hk; have := hs.1; omega)
theorem Loc.addNew (hf : Far W L O E B) (h : Loc W R L O E w) {g : Nat} (hg : B ≤ g) (hb : w.heap[g]? = some (.cells r.toArray T0 (0, 0))) : Loc W R (⟨g, r, T0⟩ :: L) O E w where
  mod := h.mod
  inv := h.inv
  blk := fun b hbm => by
    rcases List.mem_cons.1 hbm with rfl | hbm
    · exact ⟨.inr (Nat.le_trans hf.old hg), hb⟩
    · exact h.blk b hbm
  apart := List.pairwise_cons.2 ⟨fun b hbm e => by have := hf.blk b hbm; simp only at e; omega, h.apart⟩
  own := fun o ho => ⟨(h.own o ho).1, fun b hbm e => by
    rcases List.mem_cons.1 hbm with rfl | hbm
    · have := hf.own o ho _ e; simp only at this; omega
    · exact (h.own o ho).2 b hbm e⟩
  ownApart := h.ownApart
  res := fun F hF => ⟨(h.res F hF).1, (h.res F hF).2.1, fun b hbm f => by
    rcases List.mem_cons.1 hbm with rfl | hbm
    · have := hf.res F hF _ f; simp only at this; omega
    · exact (h.res F hF).2.2.1 b hbm f, (h.res F hF).2.2.2⟩
  resNew := h.resNew
  resApart := h.resApart
/-- A pointer at a new block of the cells z or r. -/
def AV (B T0 : Nat) (z r : List Value) (w : World) (v : Value) : Prop := ∃ g, v = .pointer (some ⟨g, 0, none⟩) ∧ B ≤ g ∧ (w.heap[g]? = some (.cells z.toArray T0 (0, 0)) ∨ w.heap[g]? = some (.cells r.toArray T0 (0, 0)))
theorem AV.keep {v : Value} (h : AV B T0 z r w v) (hm : TQ B T0 z r w w') : AV B T0 z r w' v := by
  obtain ⟨g, h1, h2, h3⟩ := h
  refine ⟨g, h1, h2, ?_⟩
  by_cases hs : B ≤ g ∧ w.heap[g]? = some (.cells z.toArray T0 (0, 0)) ∧ w'.heap[g]? = some (.cells r.toArray T0 (0, 0))
  · exact .inr hs.2.2
  · have hlt : g < w.heap.size := by rcases h3 with h3 | h3 <;> exact (Array.getElem?_eq_some_iff.1 h3).1
    rw [hm.block g hlt hs]
    exact h3
/-- The block that operation ka made holds the cells r. -/
def SV (ka T0 : Nat) (r : List Value) (x : Nat → Value) (w : World) (_ : Value) : Prop := w.heap[gOf (x ka)]? = some (.cells r.toArray T0 (0, 0))
theorem SV.keep {ka : Nat} {x : Nat → Value} {v : Value} (h : SV ka T0 r x w v) (hm : TQ B T0 z r w w') : SV ka T0 r x w' v := by
  unfold SV at *
  by_cases hs : B ≤ gOf (x ka) ∧ w.heap[gOf (x ka)]? = some (.cells z.toArray T0 (0, 0)) ∧ w'.heap[gOf (x ka)]? = some (.cells r.toArray T0 (0, 0))
  · exact hs.2.2
  · rw [hm.block _ (Array.getElem?_eq_some_iff.1 h).1 hs]
    exact h
structure SXq (P : Program) (n : Nat) (W : World) (R : Rg W) (ops : Array Oper) (L : List Blk) (O : List Own) (E : List Res) (B T0 : Nat) (z r : List Value) (k : Nat) (U : List (Nat × ((Nat → Value) → World → Value → Prop))) (f : (Nat → Value) → List (Nat × Value)) (l : List Oper) (Q : Exit → Act → World → Prop) : Prop where
  run : ∀ F : (Nat → Value) → Act, (∀ x, Fr n (f x) (F x)) → RS P ops (TQ B T0 z r) (fun w => Loc W R L O E w ∧ B ≤ w.heap.size) Q k l F U
end
section
variable {P : Program} {n : Nat} {W : World} {R : Rg W} {L : List Blk} {O : List Own} {E : List Res} {U : List (Nat × ((Nat → Value) → World → Value → Prop))} {f : (Nat → Value) → List (Nat × Value)} {f0 : List (Nat × Value)} {Q : Exit → Act → World → Prop} {ops : Array Oper} {rest : List Oper} {k B T0 : Nat} {z r : List Value}
theorem SXq.v {o : Oper} {v : Value} {d : Nat} (hr : ∀ x, OpW P n W R L O E (f x) o v) (hdst : o.dst = some d) (hw : ∀ x, wantO ops (f x) o = some true) (hd : Nat.blt d n = true) (h : SXq P n W R ops L O E B T0 z r (k + 1) U (fun x => (d, v) :: f x) rest Q) : SXq P n W R ops L O E B T0 z r k U f (o :: rest) Q := ⟨fun F hF =>
  RS.val [] (fun _ => v) rfl (fun _ _ _ => rfl) (fun x => wanted_of (hF x) (hw x)) (fun x w hS _ => wp_never ((hr x).run _ w (hF x) hS.1) fun _ _ ⟨h1, h2⟩ => ⟨h1, ⟨hS.1.keep h2, Nat.le_trans hS.2 h2.size⟩, h2.mono fun _ _ f => f.elim⟩) (by rw [hdst]; exact h.run _ fun x => (hF x).put hd v)⟩
/-- The value of an operation that hangs on the block that operation ka handed back. -/
theorem SXq.vk {o : Oper} {d : Nat} (ka : Nat) (v : Value → Value) (hus : ([ka].all fun i => (reach ops ops.size k).contains i) = true) (hr : ∀ x, OpW P n W R L O E (f x) o (v (x ka))) (hdst : o.dst = some d) (hw : ∀ x, wantO ops (f x) o = some true) (hd : Nat.blt d n = true) (h : SXq P n W R ops L O E B T0 z r (k + 1) U (fun x => (d, v (x ka)) :: f x) rest Q) : SXq P n W R ops L O E B T0 z r k U f (o :: rest) Q := ⟨fun F hF =>
  RS.val [ka] (fun x => v (x ka)) hus (fun x y h => by rw [h ka List.mem_cons_self]) (fun x => wanted_of (hF x) (hw x)) (fun x w hS _ => wp_never ((hr x).run _ w (hF x) hS.1) fun _ _ ⟨h1, h2⟩ => ⟨h1, ⟨hS.1.keep h2, Nat.le_trans hS.2 h2.size⟩, h2.mono fun _ _ f => f.elim⟩) (by rw [hdst]; exact h.run _ fun x => (hF x).put hd (v (x ka)))⟩
theorem SXq.no {o : Oper} {d : Nat} (hw : ∀ x, wantO ops (f x) o = some false) (hdst : o.dst = some d) (hd : Nat.blt d n = true) (h : SXq P n W R ops L O E B T0 z r (k + 1) U (fun x => (d, undef) :: f x) rest Q) : SXq P n W R ops L O E B T0 z r k U f (o :: rest) Q := ⟨fun F hF =>
  RS.skip (fun x => wanted_of (hF x) (hw x)) (by rw [hdst]; exact h.run _ fun x => (hF x).put hd undef)⟩
variable {d m ka ks : Nat} {xo yo : Operand} {ty : TypeId} {pos : String} {af : Array Edge} {gd : Option (Nat × Bool)}
theorem SXq.alloc [t : TZero P T0 z] (hf : Far W L O E B) (hw : ∀ x, wantO ops (f x) ⟨some d, .alloc T0, ty, pos, af, gd⟩ = some true) (hd : Nat.blt d n = true)
    (h : SXq P n W R ops L O E B T0 z r (k + 1) ((k, fun _ => AV B T0 z r) :: U) (fun x => (d, .pointer (some ⟨gOf (x k), 0, none⟩)) :: f x) rest Q) : SXq P n W R ops L O E B T0 z r k U f (⟨some d, .alloc T0, ty, pos, af, gd⟩ :: rest) Q := ⟨fun F hF =>
  RS.new [] (AV B T0 z r) (fun v => .pointer (some ⟨gOf v, 0, none⟩)) (fun _ v ⟨g, hv, _⟩ => by subst hv; rfl) rfl (fun _ _ _ h hm => h.keep hm) (fun x => wanted_of (hF x) (hw x)) (fun x w hS _ => by
    obtain ⟨v, h1, h2⟩ := t.h
    obtain ⟨i, hi, hz⟩ := Option.map_eq_some_iff.1 h1
    have hrun : (execOp (F x).eval ⟨some d, .alloc T0, ty, pos, af, gd⟩).run P w = .ok (.value (.pointer (some ⟨w.heap.size, 0, none⟩))) (w.alloc (.cells z.toArray T0)) := by
      simp [execOp, Instr.alloc, zeroValue, typeInfo, hi, hz, newVar, newRow, h2]
    unfold Oper.wp
    rw [hrun, Oper.upon_value]
    have hm : Mod (fun _ => False) w (w.alloc (.cells z.toArray T0)) := (Mod.refl _ w).alloc _
    exact ⟨_, rfl, ⟨w.heap.size, rfl, hS.2, .inl (heap_alloc_new w _)⟩, ⟨hS.1.keep hm, Nat.le_trans hS.2 hm.size⟩, hm.mono fun _ _ f => f.elim⟩) (h.run _ fun x => (hF x).put hd _)⟩
theorem SXq.store (ka : Nat) [t : TRow P T0 m] (hf : Far W L O E B) (hus : ([ka].all fun i => (reach ops ops.size k).contains i) = true) (hU : (ka, fun _ => AV B T0 z r) ∈ U) (hw : ∀ x, wantO ops (f x) ⟨none, .store T0 xo yo, ty, pos, af, gd⟩ = some true) (hx : ∀ x, evO (f x) xo = some (.pointer (some ⟨gOf (x ka), 0, none⟩))) (hy : ∀ x, evO (f x) yo = some (.agg r.toArray)) (hr : r.length = m) (hz : z.length = m) (hv : r.all (·.oneCell') = true)
    (h : SXq P n W R ops L O E B T0 z r (k + 1) ((k, SV ka T0 r) :: U) f rest Q) : SXq P n W R ops L O E B T0 z r k U f (⟨none, .store T0 xo yo, ty, pos, af, gd⟩ :: rest) Q := ⟨fun F hF =>
  RS.newx [ka] (SV ka T0 r) id (fun _ _ _ _ => rfl) hus ⟨fun _ _ _ _ h hm => h.keep hm, fun x y w v hxy h => by unfold SV at *; rw [← hxy ka List.mem_cons_self]; exact h⟩ (fun x => wanted_of (hF x) (hw x)) (fun x w hS hK => by
    obtain ⟨_, h3⟩ := t.h
    obtain ⟨g, hg, hB, hc⟩ := hK _ hU List.mem_cons_self
    have eg : gOf (x ka) = g := by rw [hg]; rfl
    have hxx := hx x
    rw [eg] at hxx
    have key : ∀ cs : List Value, cs.length = m → w.heap[g]? = some (.cells cs.toArray T0 (0, 0)) → (execOp (F x).eval ⟨none, .store T0 xo yo, ty, pos, af, gd⟩).run P w = .ok .skip (w.setCells g 0 r) ∧ (w.setCells g 0 r).heap[g]? = some (.cells r.toArray T0 (0, 0)) := fun cs hcs hb => by
      have e := run_store_row (P := P) (ty := T0) h3 (w := w) (b := g) (o := 0) (S := r.toArray) (by simp [hasRow, hb, hcs]) (by simp [openRow, hb]) (by simpa using hr) (by simpa using hv)
      refine ⟨by simp [execOp, (hF x).eval hxx, (hF x).eval (hy x), e], ?_⟩
      rw [setCells_heap g r 0 w _ _ _ hb, spl_over]
      have := over_all r cs [] (by omega)
      simp only [List.nil_append, List.length_nil] at this
      rw [this]
    have hmm := mod_setCells g r 0 w
    have fin : (execOp (F x).eval ⟨none, .store T0 xo yo, ty, pos, af, gd⟩).run P w = .ok .skip (w.setCells g 0 r) ∧ (w.setCells g 0 r).heap[g]? = some (.cells r.toArray T0 (0, 0)) ∧ TQ B T0 z r w (w.setCells g 0 r) := by
      rcases hc with hc | hc
      · obtain ⟨k1, k2⟩ := key z hz hc
        exact ⟨k1, k2, hmm.mono fun k _ e => by subst e; exact ⟨hB, hc, k2⟩⟩
      · obtain ⟨k1, k2⟩ := key r hr hc
        exact ⟨k1, k2, hmm.os, hmm.tape, hmm.output, hmm.size, fun k hk hn => by
          by_cases e : k = g
          · subst e; rw [k2, hc]
          · exact hmm.block k hk e⟩
    obtain ⟨k1, k2, k3⟩ := fin
    unfold Oper.wp
    rw [k1, Oper.upon_skip]
    exact ⟨undef, rfl, by unfold SV; rw [eg]; exact k2, ⟨Loc.keepQ hf hS.1 k3, Nat.le_trans hS.2 k3.size⟩, k3⟩) (h.run _ hF)⟩
theorem SXq.nil (ka ks : Nat) (hf : Far W L O E B) (hA : (ka, fun _ => AV B T0 z r) ∈ U) (hS : (ks, SV ka T0 r) ∈ U) (h : ∀ x, SQ n W R (⟨gOf (x ka), r, T0⟩ :: L) O E (f x) .normal Q) : SXq P n W R ops L O E B T0 z r k U f [] Q := ⟨fun F hF => RS.done fun x w hSw hU => by
  obtain ⟨g, hg, hB, _⟩ := hU _ hA
  have hs := hU _ hS
  have eg : gOf (x ka) = g := by rw [hg]; rfl
  exact (h x).run _ w (hF x) (Loc.addNew hf hSw.1 (by rw [eg]; exact hB) hs)⟩
/-! A literal slice of one cell, made in the region's head. -/
def sOf (v : Value) : Nat := match v with
  | .slice (some a) _ _ => a.block
  | _ => 0
def BV (B e : Nat) (u : Value) (w : World) (v : Value) : Prop := ∃ g, v = .slice (some ⟨g, 0, none⟩) 1 1 ∧ B ≤ g ∧ w.heap[g]? = some (.cells #[u] e (0, 0))
theorem SX.drawnQT {id : Nat} {l : List Oper} (m : Nat) (T0 : Nat) (z r : List Value) (hm : P.follows .mixedOrders = true) (hc : regOkTo m l.toArray = true) (ht : tailOk l.toArray m = true) (h : ∀ B, Far W L O E B → SXq P n W R l.toArray L O E B T0 z r 0 [] (fun _ => f0) (l.take m) (fun _ a w => wpList P l.toArray Q (l.drop m) a w)) : SX P n W R L O E f0 (.region id l.toArray true) Q := ⟨fun a w hf hl =>
  wp_region_rs_tail m (fun w' => Loc W R L O E w' ∧ w.heap.size ≤ w'.heap.size) (TQ w.heap.size T0 z r) hm hc ht ⟨hl.keep ((Mod.refl _ w).drew), Nat.le_refl _⟩ ((h w.heap.size hl.far).run _ fun _ => hf)⟩
theorem SXq.lit1 {T e by_ : Nat} {zv u : Value} [t : TSl P T e 1] [te : TEl P e 1 by_ zv] (hf : Far W L O E B) (hw : ∀ x, wantO ops (f x) ⟨some d, .buildSlice T 1 #[(0, xo)], ty, pos, af, gd⟩ = some true) (hd : Nat.blt d n = true) (hx : ∀ x, evO (f x) xo = some u) (hv : u.cells = #[u]) (hz : zv.cells = #[zv])
    (h : SXq P n W R ops L O E B T0 [] r (k + 1) ((k, fun _ => BV B e u) :: U) (fun x => (d, .slice (some ⟨sOf (x k), 0, none⟩) 1 1) :: f x) rest Q) : SXq P n W R ops L O E B T0 [] r k U f (⟨some d, .buildSlice T 1 #[(0, xo)], ty, pos, af, gd⟩ :: rest) Q := ⟨fun F hF =>
  RS.new [] (BV B e u) (fun v => .slice (some ⟨sOf v, 0, none⟩) 1 1) (fun _ v ⟨g, hv, _⟩ => by subst hv; rfl) rfl (fun w w' v ⟨g, h1, h2, h3⟩ hm => ⟨g, h1, h2, by
    rw [hm.block g (Array.getElem?_eq_some_iff.1 h3).1 (fun hs => by have := hs.2.1; rw [h3] at this; simp at this)]
    exact h3⟩) (fun x => wanted_of (hF x) (hw x)) (fun x w hS _ => by
    obtain ⟨i0, q1, q2, q3, q4, q5, q6⟩ := te.h
    have hfill : Instr.fill (fun i => some (i, 1)) #[zv] [(0, u)] = some #[u] := by
      unfold Instr.fill
      simp [hv, Instr.fill, List.zipIdx]
      rw [hv]
      rfl
    have hrun : (execOp (F x).eval ⟨some d, .buildSlice T 1 #[(0, xo)], ty, pos, af, gd⟩).run P w = .ok (.value (.slice (some ⟨w.heap.size, 0, none⟩) 1 1)) (w.alloc (.cells #[u] e)) := by
      have e3 : (Array.range 1).map (fun _ => zv) = #[zv] := by
        apply Array.ext_getElem?
        intro i
        cases i <;> simp [Array.getElem?_map, Array.getElem?_range]
      simp only [execOp, Instr.buildSlice, Sem.run_bind, run_underlying t.h.1, Result.andThen_ok, sizeOf, typeInfo, run_program, q1, Sem.run_pure, q3, Nat.mul_one]
      simp [newRow, zeroValue, typeInfo, q1, q2, hz, Nat.mod_one, (hF x).eval (hx x), e3, hfill]
    unfold Oper.wp
    rw [hrun, Oper.upon_value]
    have hm : Mod (fun _ => False) w (w.alloc (.cells #[u] e)) := (Mod.refl _ w).alloc _
    exact ⟨_, rfl, ⟨w.heap.size, rfl, hS.2, heap_alloc_new w _⟩, ⟨hS.1.keep hm, Nat.le_trans hS.2 hm.size⟩, hm.mono fun _ _ f => f.elim⟩) (h.run _ fun x => (hF x).put hd _)⟩
def NB (B e len : Nat) (cells : List Value) (w : World) (v : Value) : Prop := ∃ g, v = .slice (some ⟨g, 0, none⟩) len len ∧ B ≤ g ∧ w.heap[g]? = some (.cells cells.toArray e (0, 0))
theorem SXq.callB {e len fn : Nat} {cells args : List Value} {ars : List Operand} {aT : Array TypeId} [TFun P fn] (hf : Far W L O E B) (hne : cells ≠ []) (hw : ∀ x, wantO ops (f x) ⟨some d, .call ⟨.value (.func fn), ars.toArray, aT⟩, ty, pos, af, gd⟩ = some true) (hd : Nat.blt d n = true) (ha : ∀ x, evL (f x) ars = some args)
    (hc : ∀ w, Loc W R L O E w → Calls P fn args.toArray w fun en w' => ∃ g, en = .returned (.slice (some ⟨g, 0, none⟩) len len) ∧ w.heap.size ≤ g ∧ w'.heap[g]? = some (.cells cells.toArray e (0, 0)) ∧ Mod (fun _ => False) w w')
    (h : SXq P n W R ops L O E B T0 [] r (k + 1) ((k, fun _ => NB B e len cells) :: U) (fun x => (d, .slice (some ⟨sOf (x k), 0, none⟩) len len) :: f x) rest Q) : SXq P n W R ops L O E B T0 [] r k U f (⟨some d, .call ⟨.value (.func fn), ars.toArray, aT⟩, ty, pos, af, gd⟩ :: rest) Q := ⟨fun F hF =>
  RS.new [] (NB B e len cells) (fun v => .slice (some ⟨sOf v, 0, none⟩) len len) (fun _ v ⟨g, hv, _⟩ => by subst hv; rfl) rfl (fun w w' v ⟨g, h1, h2, h3⟩ hm => ⟨g, h1, h2, by
    rw [hm.block g (Array.getElem?_eq_some_iff.1 h3).1 (fun hs => by
      have := hs.2.1
      rw [h3] at this
      simp only [Option.some.injEq, Obj.cells.injEq] at this
      exact hne (by simpa using this.1))]
    exact h3⟩) (fun x => wanted_of (hF x) (hw x)) (fun x w hS _ => by
    unfold Oper.wp
    rw [run_callop (hF x) (ha x) w _ _, Oper.upon_enter]
    refine (hc w hS.1).mono ?_
    rintro en w' ⟨g, rfl, hg, hb, hm⟩
    exact ⟨_, rfl, ⟨g, rfl, Nat.le_trans hS.2 hg, hb⟩, ⟨hS.1.keep hm, Nat.le_trans hS.2 hm.size⟩, hm.mono fun _ _ f => f.elim⟩) (h.run _ fun x => (hF x).put hd _)⟩
theorem SXq.loadB {e len o T : Nat} {cells : List Value} {v : Value} (ka : Nat) [t : TOne P T] (hus : ([ka].all fun i => (reach ops ops.size k).contains i) = true) (hU : (ka, fun _ => NB B e len cells) ∈ U) (hw : ∀ x, wantO ops (f x) ⟨some d, .load T xo, ty, pos, af, gd⟩ = some true) (hd : Nat.blt d n = true) (hx : ∀ x, evO (f x) xo = some (.pointer (some ⟨sOf (x ka), o, none⟩))) (hv : cells[o]? = some v)
    (h : SXq P n W R ops L O E B T0 z r (k + 1) U (fun x => (d, v) :: f x) rest Q) : SXq P n W R ops L O E B T0 z r k U f (⟨some d, .load T xo, ty, pos, af, gd⟩ :: rest) Q := ⟨fun F hF =>
  RS.val [ka] (fun _ => v) hus (fun _ _ _ => rfl) (fun x => wanted_of (hF x) (hw x)) (fun x w hS hK => by
    obtain ⟨g, hg, hB, hb⟩ := hK _ hU List.mem_cons_self
    have eg : sOf (x ka) = g := by rw [hg]; rfl
    have hxx := hx x
    rw [eg] at hxx
    have hcell : w.cell? ⟨g, o, none⟩ = some v := blk_cell hb hv
    unfold Oper.wp
    have hrun : (execOp (F x).eval ⟨some d, .load T xo, ty, pos, af, gd⟩).run P w = .ok (.value v) w := by simp [execOp, (hF x).eval hxx, run_load1 hcell]
    rw [hrun, Oper.upon_value]
    exact ⟨rfl, hS, Mod.refl _ _⟩) (h.run _ fun x => (hF x).put hd v)⟩
theorem SXq.tail (h : ∀ x, SXl P n W R ops L O E (f x) rest Q) : SXq P n W R ops L O E B T0 z r k U f [] (fun _ a w => wpList P ops Q rest a w) := ⟨fun F hF => RS.done fun x w hSw _ => (h x).run _ w (hF x) hSw.1⟩
end
end Go.Proofs.YtkkjjhooamlljaaGreatDoor
namespace Go.Proofs.YtkkjjhooamlljaaGreatDoor
open Go.RowKit

/-- Where a slice lies. -/
structure SlP where
  a : Option Addr
  c : Nat
  lo : Nat
def ownRes {α : Type} (cells : α → List Value) (e sz : Nat) (l : List α) (q : SlP) : Res where
  foot := fun k => (Value.slice q.a l.length q.c).ownBlock = some k
  says := fun w => w.ownsRow q.lo e sz (.slice q.a l.length q.c) l.length (l.map cells).flatten
  stable := fun _ _ _ h hm hs => ownsRow_keep h hm hs
theorem own_in {α : Type} {cells : α → List Value} {e sz : Nat} {l : List α} {q : SlP} {W : World} {R : Rg W} {L : List Blk} {O : List Own} {E : List Res} {w : World} (h : Loc W R L O E w) (hm : ownRes cells e sz l q ∈ E) (hc : ∀ x, (cells x).length = sz) (hsz : sz ≠ 0) : SliceAt (Flat cells) sz (fun k => q.lo ≤ k) w q.a l := own_slice (h.res _ hm).1 hc hsz
/-- Memory of which nothing more is told. -/
def deadRes : Res := ⟨fun _ => False, fun _ => True, fun _ _ _ _ _ _ => trivial⟩

/-- One cell of memory that a fact speaks of. -/
theorem OpW.loadRes {P : Program} {n : Nat} {W : World} {R : Rg W} {L : List Blk} {O : List Own} {E : List Res} {f : List (Nat × Value)} {d : Option Tmp} {T : TypeId} {x : Operand} {ty : TypeId} {pos : String} {af : Array Edge} {gd : Option (Nat × Bool)} {F : Res} {p o : Nat} {v : Value} [TOne P T] (hF : F ∈ E) (hx : evO f x = some (.pointer (some ⟨p, o, none⟩))) (hv : ∀ w, F.says w → w.cell? ⟨p, o, none⟩ = some v) : OpW P n W R L O E f ⟨d, .load T x, ty, pos, af, gd⟩ v :=
  OpW.of (fun a w hf hl => by simp [execOp, hf.eval hx, run_load1 (hv w (hl.res F hF).1)])

end Go.Proofs.YtkkjjhooamlljaaGreatDoor
namespace Go.Proofs.YtkkjjhooamlljaaGreatDoor
open Go.RowKit
set_option linter.unusedVariables false
set_option linter.unusedSimpArgs false

/-- Slices of the call's own, each in a block of its own. -/
structure Owns (base : Nat) (w : World) (os : List Own) : Prop where
  row : ∀ o ∈ os, w.ownsRow base o.e o.sz o.v o.n o.xs
  apart : os.Pairwise (fun a b => ∀ k, a.v.ownBlock = some k → b.v.ownBlock ≠ some k)
theorem Owns.nil (base : Nat) (w : World) : Owns base w [] := ⟨fun _ h => (List.not_mem_nil h).elim, .nil⟩
theorem Owns.mod {base : Nat} {w w' : World} {os : List Own} {S : Nat → Prop} (h : Owns base w os) (hm : Mod S w w') (hs : ∀ o ∈ os, ∀ k, o.v.ownBlock = some k → ¬ S k) : Owns base w' os :=
  ⟨fun o ho => ownsRow_keep (h.row o ho) hm (hs o ho), h.apart⟩
theorem Owns.keep {base : Nat} {w w' : World} {os : List Own} (h : Owns base w os) (hm : Mod (fun _ => False) w w') : Owns base w' os := h.mod hm fun _ _ _ _ f => f
theorem Owns.low {base base' : Nat} {w : World} {os : List Own} (h : Owns base w os) (hb : base' ≤ base) : Owns base' w os := ⟨fun o ho => World.ownsRow.mono (h.row o ho) hb, h.apart⟩
theorem Owns.left {base : Nat} {w : World} {os ps : List Own} (h : Owns base w (os ++ ps)) : Owns base w os := ⟨fun o ho => h.row o (List.mem_append_left _ ho), (List.pairwise_append.1 h.apart).1⟩
theorem Owns.sub {base : Nat} {w : World} {os ps : List Own} (h : Owns base w ps) (hs : os.Sublist ps) : Owns base w os := ⟨fun o ho => h.row o (hs.subset ho), h.apart.sublist hs⟩
def NewO (ξ : Type) (v : ξ → Value) (os : ξ → List Own) (K : ξ → Prop) (w : World) (e : Ending) (w' : World) : Prop :=
  ∃ x, e = .returned (v x) ∧ K x ∧ Owns w.heap.size w' (os x) ∧ Mod (fun _ => False) w w'
def DrewO (ξ : Type) (T : TypeId) (B g : Nat) (v : ξ → Value) (os : ξ → List Own) (K : ξ → Prop) (w : World) (e : Ending) (w' : World) : Prop :=
  ∃ x, e = .returned (v x) ∧ K x ∧ Owns w.heap.size w' (os x) ∧ Mod (fun k => k = g) w w' ∧ Cur B T w' g

section
variable {P : Program} {n : Nat} {W : World} {R : Rg W} {L : List Blk} {O : List Own} {E : List Res} {w w' : World} {B : Nat} {os : List Own}
theorem Loc.owns (h : Loc W R L O E w) : Owns W.heap.size w O := ⟨fun o ho => (h.own o ho).1, h.ownApart⟩
theorem Loc.addOwns (hf : Far W L O E B) (h : Loc W R L O E w) (ho : Owns B w os) : Loc W R L (os ++ O) E w where
  mod := h.mod
  inv := h.inv
  blk := h.blk
  apart := h.apart
  own := fun o hm => by
    rcases List.mem_append.1 hm with hm | hm
    · refine ⟨World.ownsRow.mono (ho.row o hm) hf.old, fun b hb e => ?_⟩
      have := hf.blk b hb
      have := (ownBlock_lt (ho.row o hm) e).1
      omega
    · exact h.own o hm
  ownApart := List.pairwise_append.2 ⟨ho.apart, h.ownApart, fun a ha b hb k hk e => by
    have := hf.own b hb k e
    have := (ownBlock_lt (ho.row a ha) hk).1
    omega⟩
  res := fun F hF => ⟨(h.res F hF).1, (h.res F hF).2.1, (h.res F hF).2.2.1, fun o hm k hk f => by
    rcases List.mem_append.1 hm with hm | hm
    · have := hf.res F hF k f
      have := (ownBlock_lt (ho.row o hm) hk).1
      omega
    · exact (h.res F hF).2.2.2 o hm k hk f⟩
  resNew := h.resNew
  resApart := h.resApart
theorem Loc.gotOwns (h : Loc W R L O E w) (hm : Mod (fun _ => False) w w') (ho : Owns w.heap.size w' os) : Loc W R L (os ++ O) E w' :=
  (h.keep hm).addOwns h.far ho
theorem Loc.ownCell {i g m c e sz j : Nat} {xs : List Value} (h : Loc W R L O E w) (hi : O[i]? = some ⟨.slice (some ⟨g, 0, none⟩) m c, e, sz, m, xs⟩) {v : Value} (hv : xs[j]? = some v) : w.cell? ⟨g, j, none⟩ = some v := by
  have ho := (h.own _ (List.mem_iff_getElem?.2 ⟨i, hi⟩)).1
  simp only at ho
  rw [ho.cellAt j (by rw [← ho.1]; exact (List.getElem?_eq_some_iff.1 hv).1), hv]
end
section
variable {P : Program} {n : Nat} {W : World} {R : Rg W} {L : List Blk} {O : List Own} {E : List Res} {f : List (Nat × Value)} {Q : Exit → Act → World → Prop} {ops : Array Oper} {rest : List Oper} {d : Option Tmp} {dn : Nat} {T : TypeId} {x y : Operand} {ty : TypeId} {pos : String} {af : Array Edge} {gd : Option (Nat × Bool)} {g o : Nat}
theorem SXl.storeOwn {v : Value} {O' : List Own} {m c e sz : Nat} {xs : List Value} (i : Nat) [TOne P T] (hw : wantO ops f ⟨none, .store T x y, ty, pos, af, gd⟩ = some true) (hx : evO f x = some (.pointer (some ⟨g, o, none⟩))) (hy : evO f y = some v)
    (hi : O[i]? = some ⟨.slice (some ⟨g, 0, none⟩) m c, e, sz, m, xs⟩) (ho : o < xs.length) (hv : v.oneCell' = true) (hO : O.set i ⟨.slice (some ⟨g, 0, none⟩) m c, e, sz, m, xs.set o v⟩ = O') (h : SXl P n W R ops L O' E f rest Q) : SXl P n W R ops L O E f (⟨none, .store T x y, ty, pos, af, gd⟩ :: rest) Q :=
  SXl.steps hw rfl (fun a w hf hl => by
    have hown := (hl.own _ (List.mem_iff_getElem?.2 ⟨i, hi⟩)).1
    simp only at hown
    refine ⟨w.setCell ⟨g, o, none⟩ v, ?_, hO ▸ hl.ownTurned hi ?_ (hown.stored o v).1 (.inl rfl)⟩
    · simp [execOp, hf.eval hx, hf.eval hy, run_store1 (hl.ownCell hi (List.getElem?_eq_getElem ho)) (hown.frozenAt o) hv]
    · exact ((Mod.refl _ w).setAt _ _ _).mono fun k _ e => by subst e; rfl) h
/-- A call that hands back slices of the call's own. -/
theorem SXl.callO {ξ : Type} {v : ξ → Value} {os : ξ → List Own} {K : ξ → Prop} {fn : FuncId} {ars : List Operand} {args : List Value} {aT : Array TypeId} [TFun P fn] (hw : wantO ops f ⟨some dn, .call ⟨.value (.func fn), ars.toArray, aT⟩, ty, pos, af, gd⟩ = some true) (hd : Nat.blt dn n = true) (ha : evL f ars = some args)
    (hc : ∀ w, Loc W R L O E w → Calls P fn args.toArray w (NewO ξ v os K w))
    (h : ∀ x, K x → SXl P n W R ops L (os x ++ O) E ((dn, v x) :: f) rest Q) : SXl P n W R ops L O E f (⟨some dn, .call ⟨.value (.func fn), ars.toArray, aT⟩, ty, pos, af, gd⟩ :: rest) Q := ⟨fun a w hf hl => by
  unfold wpList
  rw [if_pos (wanted_of hf hw)]
  refine .inl ?_
  unfold Oper.wp
  rw [run_callop hf ha w _ _, Oper.upon_enter]
  refine (hc w hl).mono ?_
  rintro e w' ⟨x, rfl, hk, ho, hm⟩
  exact (h x hk).run _ _ (hf.put hd _) (hl.gotOwns hm ho)⟩
/-- The same, with a draw from a cursor. -/
theorem SXl.drawO {ξ : Type} {v : ξ → Value} {os : ξ → List Own} {K : ξ → Prop} {fn : FuncId} {ars : List Operand} {args : List Value} {aT : Array TypeId} [TFun P fn] (i : Nat) (hw : wantO ops f ⟨some dn, .call ⟨.value (.func fn), ars.toArray, aT⟩, ty, pos, af, gd⟩ = some true) (hd : Nat.blt dn n = true) (ha : evL f ars = some args)
    {TC gc : Nat} (hi : E[i]? = some (curRes TC W gc))
    (hc : ∀ w, Loc W (Rg.none W) L O E w → Cur W.heap.size TC w gc → Calls P fn args.toArray w (DrewO ξ TC W.heap.size gc v os K w))
    (h : ∀ x, K x → SXl P n W (Rg.none W) ops L (os x ++ O) E ((dn, v x) :: f) rest Q) : SXl P n W (Rg.none W) ops L O E f (⟨some dn, .call ⟨.value (.func fn), ars.toArray, aT⟩, ty, pos, af, gd⟩ :: rest) Q := ⟨fun a w hf hl => by
  unfold wpList
  rw [if_pos (wanted_of hf hw)]
  refine .inl ?_
  unfold Oper.wp
  rw [run_callop hf ha w _ _, Oper.upon_enter]
  have hmem : curRes TC W gc ∈ E := List.mem_iff_getElem?.2 ⟨i, hi⟩
  have hs := (hl.res _ hmem).1
  have hnew := hl.resNew _ hmem gc rfl
  have hE : E.set i (curRes TC W gc) = E := by
    refine List.ext_getElem? fun j => ?_
    rw [List.getElem?_set]
    split
    · rename_i e
      subst e
      rw [hi]
      split
      · rfl
      · rename_i hlt
        exact (hlt (List.getElem?_eq_some_iff.1 hi).1).elim
    · rfl
  refine (hc w hl (cur_of hl.mod hs)).mono ?_
  rintro e w' ⟨x, rfl, hk, ho, hm, hcur⟩
  have h1 : Loc W (Rg.none W) L O E w' := by
    have := hl.retold (F' := curRes TC W gc) hi hm (of_cur (fun k hk2 => by
      rw [hm.block k (Nat.lt_of_lt_of_le hk2 hl.mod.size) (fun e => by omega), hl.mod.block k hk2 (fun f => f)]) hcur) (fun _ h => h)
    rwa [hE] at this
  exact (h x hk).run _ _ (hf.put hd _) (h1.addOwns hl.far ho)⟩
/-- The same, where the cursor is old memory that the call may turn. -/
theorem SXl.drawOJ {ξ : Type} {v : ξ → Value} {os : ξ → List Own} {K : ξ → Prop} {fn : FuncId} {ars : List Operand} {args : List Value} {aT : Array TypeId} [TFun P fn] {TC B gc : Nat} {hg : gc < W.heap.size} {hB : B ≤ gc} (hw : wantO ops f ⟨some dn, .call ⟨.value (.func fn), ars.toArray, aT⟩, ty, pos, af, gd⟩ = some true) (hd : Nat.blt dn n = true) (ha : evL f ars = some args)
    (hc : ∀ w, Loc W (curRg TC B gc W hg hB) L O E w → Calls P fn args.toArray w (DrewO ξ TC B gc v os K w))
    (h : ∀ x, K x → SXl P n W (curRg TC B gc W hg hB) ops L (os x ++ O) E ((dn, v x) :: f) rest Q) : SXl P n W (curRg TC B gc W hg hB) ops L O E f (⟨some dn, .call ⟨.value (.func fn), ars.toArray, aT⟩, ty, pos, af, gd⟩ :: rest) Q := ⟨fun a w hf hl => by
  unfold wpList
  rw [if_pos (wanted_of hf hw)]
  refine .inl ?_
  unfold Oper.wp
  rw [run_callop hf ha w _ _, Oper.upon_enter]
  refine (hc w hl).mono ?_
  rintro e w' ⟨x, rfl, hk, ho, hm, hj⟩
  refine (h x hk).run _ _ (hf.put hd _) (Loc.addOwns hl.far ?_ ho)
  exact {
    mod := hl.mod.then hm fun _ _ h => h
    inv := hj
    blk := fun b hb => ⟨(hl.blk b hb).1, hm.blk (hl.blk b hb).2 fun e => by
      rcases (hl.blk b hb).1 with h2 | h2
      · exact h2.elim
      · omega⟩
    apart := hl.apart
    own := fun q hq' => ⟨ownsRow_keep (hl.own q hq').1 hm fun k hk e => by have := (ownBlock_lt (hl.own q hq').1 hk).1; omega, (hl.own q hq').2⟩
    ownApart := hl.ownApart
    res := fun F hF => ⟨F.stable _ _ _ (hl.res F hF).1 hm (fun k hk e => by have := hl.resNew F hF k hk; omega), fun k hk => Nat.lt_of_lt_of_le ((hl.res F hF).2.1 k hk) hm.size, (hl.res F hF).2.2⟩
    resNew := hl.resNew
    resApart := hl.resApart }⟩
end
end Go.Proofs.YtkkjjhooamlljaaGreatDoor
namespace Go.Proofs.YtkkjjhooamlljaaGreatDoor
open Go.RowKit
set_option linter.unusedVariables false
set_option linter.unusedSimpArgs false

theorem fold_over : ∀ (r : List Value) (k : Nat) (c : List Value), (r.zipIdx k).foldl (fun (cs : Array Value) (p : Value × Nat) => cs.setIfInBounds (0 + p.2) p.1) c.toArray = (over c k r).toArray
  | [], _, _ => rfl
  | v :: r, k, c => by
    rw [List.zipIdx_cons, List.foldl_cons]
    have := fold_over r (k + 1) (c.set k v)
    simp only [Nat.zero_add] at this ⊢
    rw [over, ← this]
    simp
theorem fill_one {r c : List Value} {v : Value} {sz : Nat} (hv : v.cells = r.toArray) (hr : r.length = sz) (hc : c.length = sz) : Instr.fill (fun i => some (i * sz, sz)) c.toArray [(0, v)] = some r.toArray := by
  have h0 : over c 0 r = r := by
    have := over_all r c [] (by omega)
    simpa using this
  unfold Instr.fill
  simp only [hv, Nat.zero_mul, List.size_toArray, hr, hc]
  rw [if_neg (by simp)]
  unfold Instr.fill
  have := fold_over r 0 c
  rw [h0] at this
  rw [← Array.foldl_toList, Array.toList_zipIdx]
  simp only [Nat.zero_add] at this
  simpa using this
section
variable {P : Program} {n : Nat} {W : World} {R : Rg W} {L : List Blk} {O : List Own} {E : List Res} {f : List (Nat × Value)} {Q : Exit → Act → World → Prop} {ops : Array Oper} {rest : List Oper} {dn : Nat} {T e : TypeId} {x : Operand} {ty : TypeId} {pos : String} {af : Array Edge} {gd : Option (Nat × Bool)}
theorem SXl.litRow1 {sz by_ : Nat} {z v : Value} {r : List Value} [t : TSl P T e sz] [te : TEl P e sz by_ z] (hw : wantO ops f ⟨some dn, .buildSlice T 1 #[(0, x)], ty, pos, af, gd⟩ = some true) (hd : Nat.blt dn n = true)
    (hx : evO f x = some v) (hv : v.cells = r.toArray) (hr : r.length = sz) (h0 : 0 < sz) (hs : sz ≤ 16777216)
    (h : ∀ g, SXl P n W R ops (⟨g, r, e⟩ :: L) O E ((dn, .slice (some ⟨g, 0, none⟩) 1 1) :: f) rest Q) : SXl P n W R ops L O E f (⟨some dn, .buildSlice T 1 #[(0, x)], ty, pos, af, gd⟩ :: rest) Q :=
  SXl.litRow (parts := [(0, x)]) (vals := [(0, v)]) (cells := r) (z := z) hw hd (by simp [evP, hx]) (by omega) (by omega) (by
    have := fill_one (c := ((Array.range (1 * sz)).map (fun i => z.cells[i % z.cells.size]!)).toList) hv hr (by simp)
    rw [Array.toArray_toList] at this
    exact this) h
theorem SXl.lit0R {sz by_ : Nat} {z : Value} [t : TSl P T e sz] [te : TEl P e sz by_ z] (hw : wantO ops f ⟨some dn, .buildSlice T 0 #[], ty, pos, af, gd⟩ = some true) (hd : Nat.blt dn n = true) (hR : ∀ k, ¬ R.q k)
    (h : ∀ g, SXl P n W R ops L (⟨.slice (some ⟨g, 0, none⟩) 0 0, e, sz, 0, []⟩ :: O) E ((dn, .slice (some ⟨g, 0, none⟩) 0 0) :: f) rest Q) : SXl P n W R ops L O E f (⟨some dn, .buildSlice T 0 #[], ty, pos, af, gd⟩ :: rest) Q :=
  SXl.stepn (V := fun g => .slice (some ⟨g, 0, none⟩) 0 0) (L' := fun _ => L) (O' := fun g => ⟨.slice (some ⟨g, 0, none⟩) 0 0, e, sz, 0, []⟩ :: O) hw rfl hd (fun a w hf hl => by
    obtain ⟨i0, q1, q2, q3, q4, q5, q6⟩ := te.h
    refine ⟨w.heap.size, w.alloc (.cells #[] e), ?_, ((hl.alloc [] e).toOwn (m := 0) (hR _) (by simp) (by unfold maxLen; omega))⟩
    simp only [execOp, Instr.buildSlice, Sem.run_bind, run_underlying t.h.1, Result.andThen_ok, sizeOf, typeInfo, run_program, q1, Sem.run_pure, q3]
    have e4 : Array.map (fun _ : Nat => (default : Value)) (Array.range 0) = #[] := by simp
    simp [newRow, q1, q2, q3, e4, Instr.fill]
    done) h
end
end Go.Proofs.YtkkjjhooamlljaaGreatDoor
namespace Go.Proofs.YtkkjjhooamlljaaGreatDoor
open Go.RowKit
set_option linter.unusedVariables false
set_option linter.unusedSimpArgs false

/-- Operation k comes up: not before; whom it waits for have come; who has come up had its own behind it. -/
structure Adm (ops : Array Oper) (d : Nat → Bool) (k : Nat) : Prop where
  not : d k = false
  pre : ∀ i ∈ reach ops ops.size k, d i = true
  clo : ∀ j, d j = true → ∀ i ∈ reach ops ops.size j, d i = true
def upd (d : Nat → Bool) (k : Nat) : Nat → Bool := fun j => Nat.beq j k || d j
def upx (x : Nat → Value) (k : Nat) (v : Value) : Nat → Value := fun j => bif Nat.beq j k then v else x j
theorem Adm.done {ops : Array Oper} {d : Nat → Bool} {k : Nat} (h : Adm ops d k) (i : Nat) (hi : (reach ops ops.size k).contains i = true) : d i = true := h.pre i (by simpa using hi)
/-- Who waits for k has not come up. -/
theorem Adm.later {ops : Array Oper} {d : Nat → Bool} {k : Nat} (h : Adm ops d k) (j : Nat) (hj : (reach ops ops.size j).contains k = true) : d j = false := by
  cases hq : d j with
  | false => rfl
  | true =>
    have := h.clo j hq k (by simpa using hj)
    rw [h.not] at this
    cases this

/-- The walk in the text's order. d: who has come up; x: what the operations gave, by their number. -/
inductive RG (P : Program) (ops : Array Oper) (S : (Nat → Bool) → (Nat → Value) → World → Prop) (Q : Exit → Act → World → Prop) : Nat → List Oper → ((Nat → Value) → Act) → Prop
  | done {k : Nat} {F : (Nat → Value) → Act} (h : ∀ x w, S (fun i => Nat.blt i k) x w → Q .normal (F x) w) : RG P ops S Q k [] F
  | skip {k : Nat} {o : Oper} {rest : List Oper} {F : (Nat → Value) → Act} (hw : ∀ x, Region.wanted o (yielded ops (F x).tmps) = false) (hs : ∀ d x w, S d x w → S (upd d k) x w)
      (h : RG P ops S Q (k + 1) rest (fun x => (F x).put o.dst undef)) : RG P ops S Q k (o :: rest) F
  | val {k : Nat} {o : Oper} {rest : List Oper} {F : (Nat → Value) → Act} (us : List Nat) (g : (Nat → Value) → Value)
      (hus : (us.all fun i => (reach ops ops.size k).contains i) = true) (hg : ∀ x y, (∀ i ∈ us, x i = y i) → g x = g y)
      (hw : ∀ x, Region.wanted o (yielded ops (F x).tmps) = true)
      (ho : ∀ d x w, Adm ops d k → S d x w → o.wp P (F x) w (fun a' w' => a' = (F x).put o.dst (g x) ∧ S (upd d k) x w') never)
      (h : RG P ops S Q (k + 1) rest (fun x => (F x).put o.dst (g x))) : RG P ops S Q k (o :: rest) F
  | new {k : Nat} {o : Oper} {rest : List Oper} {F : (Nat → Value) → Act}
      (hw : ∀ x, Region.wanted o (yielded ops (F x).tmps) = true)
      (ho : ∀ d x w, Adm ops d k → S d x w → o.wp P (F x) w (fun a' w' => ∃ v, a' = (F x).put o.dst v ∧ S (upd d k) (upx x k v) w') never)
      (h : RG P ops S Q (k + 1) rest (fun x => (F x).put o.dst (x k))) : RG P ops S Q k (o :: rest) F

section
variable {P : Program} {ops : Array Oper} {S : (Nat → Bool) → (Nat → Value) → World → Prop} {Q : Exit → Act → World → Prop}
/-- What the walk says of one operation. -/
def SpecG (P : Program) (ops : Array Oper) (S : (Nat → Bool) → (Nat → Value) → World → Prop) (k : Nat) (o : Oper) (A : (Nat → Value) → Act) (g : (Nat → Value) → Value) : Prop :=
  ((∀ x, Region.wanted o (yielded ops (A x).tmps) = false) ∧ g = (fun _ => undef) ∧ ∀ d x w, S d x w → S (upd d k) x w) ∨
  (∃ us : List Nat, (∀ i ∈ us, i ∈ reach ops ops.size k) ∧ (∀ x y, (∀ i ∈ us, x i = y i) → g x = g y) ∧ (∀ x, Region.wanted o (yielded ops (A x).tmps) = true) ∧
    ∀ d x w, Adm ops d k → S d x w → o.wp P (A x) w (fun a' w' => a' = (A x).put o.dst (g x) ∧ S (upd d k) x w') never) ∨
  (g = (fun x => x k) ∧ (∀ x, Region.wanted o (yielded ops (A x).tmps) = true) ∧
    ∀ d x w, Adm ops d k → S d x w → o.wp P (A x) w (fun a' w' => ∃ v, a' = (A x).put o.dst v ∧ S (upd d k) (upx x k v) w') never)

theorem RG.out {k : Nat} {rest : List Oper} {F : (Nat → Value) → Act} (h : RG P ops S Q k rest F) :
    ∀ (a0 : Act) (G0 : Nat → (Nat → Value) → Value), (∀ j, j < rest.length → rest[j]? = ops[k + j]?) → F = (fun x => frm ops a0 G0 x k) →
    ∃ (G : Nat → (Nat → Value) → Value), (∀ i, i < k → G i = G0 i) ∧
      (∀ i o, k ≤ i → i < k + rest.length → ops[i]? = some o → SpecG P ops S i o (fun x => frm ops a0 G x i) (G i)) ∧
      (∀ x w, S (fun i => Nat.blt i (k + rest.length)) x w → Q .normal (frm ops a0 G x (k + rest.length)) w) := by
  have frmEq : ∀ (a0 : Act) (G G' : Nat → (Nat → Value) → Value) (m : Nat), (∀ i, i < m → G i = G' i) → ∀ x, frm ops a0 G x m = frm ops a0 G' x m := by
    intro a0 G G' m
    induction m with
    | zero => intro _ _; rfl
    | succ m ih => intro hG x; simp only [frm]; rw [ih (fun i hi => hG i (by omega)) x, hG m (by omega)]
  have more : ∀ (k : Nat) (o : Oper) (rest : List Oper) (g : (Nat → Value) → Value) (a0 : Act) (G0 : Nat → (Nat → Value) → Value),
      (∀ j, j < (o :: rest).length → (o :: rest)[j]? = ops[k + j]?) → SpecG P ops S k o (fun x => frm ops a0 G0 x k) g →
      (∀ (a1 : Act) (G1 : Nat → (Nat → Value) → Value), (∀ j, j < rest.length → rest[j]? = ops[k + 1 + j]?) → (fun x => (frm ops a0 G0 x k).put o.dst (g x)) = (fun x => frm ops a1 G1 x (k + 1)) →
        ∃ (G : Nat → (Nat → Value) → Value), (∀ i, i < k + 1 → G i = G1 i) ∧
          (∀ i o, k + 1 ≤ i → i < k + 1 + rest.length → ops[i]? = some o → SpecG P ops S i o (fun x => frm ops a1 G x i) (G i)) ∧
          (∀ x w, S (fun i => Nat.blt i (k + 1 + rest.length)) x w → Q .normal (frm ops a1 G x (k + 1 + rest.length)) w)) →
      ∃ (G : Nat → (Nat → Value) → Value), (∀ i, i < k → G i = G0 i) ∧
        (∀ i o', k ≤ i → i < k + (o :: rest).length → ops[i]? = some o' → SpecG P ops S i o' (fun x => frm ops a0 G x i) (G i)) ∧
        (∀ x w, S (fun i => Nat.blt i (k + (o :: rest).length)) x w → Q .normal (frm ops a0 G x (k + (o :: rest).length)) w) := by
    intro k o rest g a0 G0 hr hsp ih
    have ho : ops[k]? = some o := by simpa using (hr 0 (by simp)).symm
    have hd : dstOf ops k = o.dst := by simp [dstOf, ho]
    let G1 : Nat → (Nat → Value) → Value := fun i => if i = k then g else G0 i
    have g1 : ∀ i, i < k → G1 i = G0 i := fun i hi => if_neg (by omega)
    have gk : G1 k = g := if_pos rfl
    obtain ⟨G, e1, e2, e3⟩ := ih a0 G1 (fun j hj => by have := hr (j + 1) (by simp; omega); simpa [Nat.add_assoc, Nat.add_comm 1 j] using this)
      (by funext x; simp only [frm, gk, hd]; rw [frmEq a0 G1 G0 k g1 x])
    refine ⟨G, fun i hi => (e1 i (by omega)).trans (g1 i hi), fun i o' hi hlt ho' => ?_, by simpa [Nat.add_assoc, Nat.add_comm 1] using e3⟩
    by_cases e : i = k
    · subst e
      obtain rfl : o = o' := by rw [ho] at ho'; simpa using ho'
      have fe := frmEq a0 G G0 i (fun j hj => (e1 j (by omega)).trans (g1 j hj))
      have ge : G i = g := (e1 i (by omega)).trans gk
      rw [ge, show (fun x => frm ops a0 G x i) = fun x => frm ops a0 G0 x i from funext fe]
      exact hsp
    · exact e2 i o' (by omega) (by simp only [List.length_cons] at hlt; omega) ho'
  induction h with
  | @done k F h =>
    intro a0 G0 hr hF
    subst hF
    exact ⟨G0, fun i _ => rfl, fun i o hi hlt ho => by simp at hlt; omega, h⟩
  | @skip k o rest F hw hs h ih =>
    intro a0 G0 hr hF
    subst hF
    exact more k o rest (fun _ => undef) a0 G0 hr (.inl ⟨hw, rfl, hs⟩) ih
  | @val k o rest F us g hus hg hw hop h ih =>
    intro a0 G0 hr hF
    subst hF
    exact more k o rest g a0 G0 hr (.inr (.inl ⟨us, contains_all hus, hg, hw, hop⟩)) ih
  | @new k o rest F hw hop h ih =>
    intro a0 G0 hr hF
    subst hF
    exact more k o rest (fun x => x k) a0 G0 hr (.inr (.inr ⟨rfl, hw, hop⟩)) ih

/-- WHATEVER ORDER of the first n: the walk in the text's order serves; behind them the rest goes in its own order. -/
theorem RG.any {n : Nat} {a0 : Act} {w0 : World} (hc : regOkTo n ops = true) (ht : n = ops.size ∨ tailOk ops n = true) (h : RG P ops S (fun _ a w => wpList P ops Q (ops.toList.drop n) a w) 0 (ops.toList.take n) (fun _ => a0)) (hS : S (fun _ => false) (fun _ => undef) w0) :
    wpAny P .any ops Q ops.size (Array.replicate ops.size false) a0 w0 := by
  obtain ⟨c1, c2, c3, c4⟩ := regOk_spec hc
  have hnle : n ≤ ops.size := by
    rcases ht with rfl | ht
    · exact Nat.le_refl _
    · simp only [tailOk, Bool.and_eq_true, decide_eq_true_eq] at ht
      omega
  have htn : 0 + (ops.toList.take n).length = n := by simp; omega
  obtain ⟨G, _, hspec, hfin⟩ := h.out a0 (fun _ _ => undef) (fun j hj => by
    have hj' : j < n := by omega
    simp [hj']) rfl
  rw [htn] at hfin
  have gdep : ∀ i o, i < n → ops[i]? = some o → ∀ x y, (∀ j, (j ∈ reach ops ops.size i ∨ j = i) → x j = y j) → G i x = G i y := fun i o hin ho x y hxy => by
    have hs := hspec i o (Nat.zero_le _) (by rw [htn]; exact hin) ho
    rcases hs with ⟨_, hg, _⟩ | ⟨us, hus, hg, _⟩ | ⟨hg, _⟩
    · rw [hg]
    · exact hg x y fun j hj => hxy j (.inl (hus j hj))
    · rw [hg]; show x i = y i; rw [hxy i (.inr rfl)]
  have main : ∀ (fuel : Nat) (listed : Array Bool) (a : Act) (w : World) (x : Nat → Value), listed.size = ops.size → (unlistedTo n listed).length = fuel →
      (∀ i, listed.getD i false = true → ∀ o, ops[i]? = some o → ∀ e ∈ o.after, Region.binds .any e = true → listed.getD e.on false = true) →
      (∀ t, n ≤ t → t < ops.size → listed.getD t true = false) →
      Laid ops a0 G x (fun i => listed.getD i false = true) a → S (fun i => listed.getD i false) x w → wpAny P .any ops Q (fuel + (ops.size - n)) listed a w := by
    intro fuel
    induction fuel with
    | zero =>
      intro listed a w x hsz hfu hcl htl hla hSw
      have hall : ∀ i, i < n → listed.getD i false = true := fun i hi => by
        have h0 : unlistedTo n listed = [] := List.eq_nil_of_length_eq_zero hfu
        by_cases hn' : listed.getD i false = true
        · exact hn'
        · have : i ∈ unlistedTo n listed := by
            unfold unlistedTo
            rw [List.mem_filter, List.mem_range]
            have hi' : i < listed.size := by omega
            simp only [Array.getD_eq_getD_getElem?, Array.getElem?_eq_getElem hi', Option.getD_some, Bool.not_eq_true] at hn' ⊢
            exact ⟨hi, by rw [hn']; rfl⟩
          rw [h0] at this; simp at this
      have hon : ∀ i, listed.getD i false = true → i < n := fun i hi => by
        by_cases h : i < n
        · exact h
        · by_cases h2 : i < ops.size
          · have := getD_both (htl i (Nat.le_of_not_lt h) h2)
            rw [this] at hi; cases hi
          · rw [Array.getD_eq_getD_getElem?, Array.getElem?_eq_none (by omega)] at hi; cases hi
      have eL : listed = headDone n ops.size := by
        have hds : (headDone n ops.size).size = ops.size := by simp [headDone]; omega
        apply Array.ext (by rw [hds, hsz])
        intro i h1 h2
        have e1 : listed.getD i false = listed[i] := by simp [h1]
        by_cases hi : i < n
        · have := hall i hi
          rw [e1] at this
          rw [this]
          simp [headDone, hi]
        · have := getD_both (htl i (Nat.le_of_not_lt hi) (by omega))
          rw [e1] at this
          rw [this]
          simp [headDone, Array.getElem_append, hi]
      have e : a = frm ops a0 G x n := by
        have hb := laid_frm hc a0 G x n (by omega)
        have ht : a.tmps = (frm ops a0 G x n).tmps := by
          apply Array.ext_getElem?
          intro t
          by_cases hs : t < a0.tmps.size
          · by_cases he : ∃ i, i < n ∧ dstOf ops i = some t
            · obtain ⟨i, hin, hi⟩ := he
              rw [hla.on i t (hall i hin) hi hs, hb.on i t hin hi hs]
            · rw [hla.off t (fun i hli hi => he ⟨i, hon i hli, hi⟩), hb.off t (fun i hin hi => he ⟨i, hin, hi⟩)]
          · rw [Array.getElem?_eq_none (by rw [hla.size]; exact Nat.le_of_not_lt hs), Array.getElem?_eq_none (by rw [hb.size]; exact Nat.le_of_not_lt hs)]
        have hd : a.defers = (frm ops a0 G x n).defers := hla.defers.trans hb.defers.symm
        cases a; cases hf : frm ops a0 G x n
        rw [hf] at ht hd
        simp only at ht hd
        rw [ht, hd]
      have hlen : (ops.toList.drop n).length = ops.size - n := by simp
      have ed : (fun i => listed.getD i false) = fun i => Nat.blt i n := by
        funext i
        by_cases hi : i < n
        · rw [hall i hi]
          exact (show Nat.blt i n = true by simpa using hi).symm
        · have h1 : listed.getD i false = false := by
            cases hq : listed.getD i false with
            | false => rfl
            | true => exact (hi (hon i hq)).elim
          rw [h1]
          cases hq : Nat.blt i n with
          | false => rfl
          | true => exact (hi (by simpa using hq)).elim
      have hw := hfin x w (ed ▸ hSw)
      rw [← e] at hw
      rcases ht with rfl | ht
      · have e0 : ops.toList.drop ops.size = [] := List.drop_eq_nil_of_le (by simp)
        rw [e0] at hw
        rw [Nat.zero_add, Nat.sub_self]
        refine ⟨?_, hw⟩
        cases hr : Region.ready .any ops listed with
        | nil => rfl
        | cons i rest =>
          have hi : i ∈ Region.ready .any ops listed := by rw [hr]; exact List.mem_cons_self
          obtain ⟨h1, o, ho, _⟩ := mem_ready.1 hi
          have hlt := (Array.getElem?_eq_some_iff.1 ho).1
          have h2 := hall i hlt
          have hi' : i < listed.size := by omega
          simp only [Array.getD_eq_getD_getElem?, Array.getElem?_eq_getElem hi', Option.getD_some] at h1 h2
          rw [h1] at h2; cases h2
      · simp only [tailOk, Bool.and_eq_true, decide_eq_true_eq] at ht
        obtain ⟨⟨⟨hn, hs1⟩, hs2⟩, hs3⟩ := ht
        have := wpAny_of_seq (md := .any) (ops.toList.drop n) n listed a w (fun j => by simp [List.getElem?_drop]) (by rw [hlen, eL]; exact hs3) hw
        rw [hlen] at this
        rw [Nat.zero_add]
        exact this
    | succ fuel ih =>
      intro listed a w x hsz hfu hcl htl hla hSw
      have inv : HeadInv .any ops n listed := ⟨hsz, fun j oj hj hl e he hb => hcl j hl oj hj e he hb, htl⟩
      obtain ⟨j0, hj0⟩ : ∃ j0, j0 < n ∧ listed.getD j0 true = false := by
        cases hu : unlistedTo n listed with
        | nil => rw [hu] at hfu; cases hfu
        | cons j r =>
          have : j ∈ unlistedTo n listed := by rw [hu]; exact List.mem_cons_self
          unfold unlistedTo at this
          rw [List.mem_filter, List.mem_range] at this
          exact ⟨j, this.1, by simpa using this.2⟩
      have lt_of_listed : ∀ j, listed.getD j false = true → j < n := fun i hi => by
        by_cases h : i < n
        · exact h
        · by_cases h2 : i < ops.size
          · have := getD_both (htl i (Nat.le_of_not_lt h) h2)
            rw [this] at hi; cases hi
          · rw [Array.getD_eq_getD_getElem?, Array.getElem?_eq_none (by omega)] at hi; cases hi
      -- an operation that comes up
      have step : ∀ i ∈ Region.ready .any ops listed, wpOp P ops Q i (wpAny P .any ops Q (fuel + (ops.size - n)) (listed.setIfInBounds i true)) a w := by
        intro i hi
        have hin : i < n := by
          by_cases h : i < n
          · exact h
          · rcases ht with rfl | ht
            · obtain ⟨_, o, ho, _⟩ := mem_ready.1 hi
              exact (Array.getElem?_eq_some_iff.1 ho).1
            · simp only [tailOk, Bool.and_eq_true, decide_eq_true_eq] at ht
              obtain ⟨⟨⟨hn, hs1⟩, hs2⟩, hs3⟩ := ht
              exact (tail_waits hs1 hs2 hn inv (n - j0) j0 rfl hj0.1 hj0.2 i (Nat.le_of_not_lt h) hi).elim
        obtain ⟨h1, o, ho, h2⟩ := mem_ready.1 hi
        have hlt := (Array.getElem?_eq_some_iff.1 ho).1
        have hli : i < listed.size := by omega
        have hun : listed.getD i false = false := by
          simp only [Array.getD_eq_getD_getElem?, Array.getElem?_eq_getElem hli, Option.getD_some] at h1 ⊢
          exact h1
        have hd : dstOf ops i = o.dst := by simp [dstOf, ho]
        have hset : ∀ j, (listed.setIfInBounds i true).getD j false = true ↔ listed.getD j false = true ∨ j = i := fun j => by
          by_cases e : i = j
          · subst e; simp [hli]
          · rw [getD_set_ne false e]
            exact ⟨.inl, fun h => h.elim id fun h => (e h.symm).elim⟩
        have hcl' : ∀ j, (listed.setIfInBounds i true).getD j false = true → ∀ p, ops[j]? = some p → ∀ e ∈ p.after, Region.binds .any e = true → (listed.setIfInBounds i true).getD e.on false = true := fun j hj p hp e he hb => by
          rw [hset] at hj ⊢
          rcases hj with hj | rfl
          · exact .inl (hcl j hj p hp e he hb)
          · obtain rfl : o = p := by rw [ho] at hp; simpa using hp
            exact .inl (h2 e he hb)
        have hsz' : (listed.setIfInBounds i true).size = ops.size := by simpa using hsz
        have hfu' : (unlistedTo n (listed.setIfInBounds i true)).length = fuel := by
          have e : unlistedTo n (listed.setIfInBounds i true) = (unlistedTo n listed).erase i := by
            unfold unlistedTo
            rw [List.Nodup.erase_eq_filter (List.nodup_range.filter _), List.filter_filter]
            refine List.filter_congr fun j _ => ?_
            by_cases hj : i = j
            · subst hj; simp [hli]
            · rw [getD_set_ne true hj]; simp [Ne.symm hj]
          rw [e, List.length_erase_of_mem, hfu]
          · rfl
          · unfold unlistedTo
            rw [List.mem_filter, List.mem_range]
            exact ⟨hin, by rw [h1]; rfl⟩
        have htl' : ∀ t, n ≤ t → t < ops.size → (listed.setIfInBounds i true).getD t true = false := fun t ht ht' => by rw [getD_set_ne true (by omega)]; exact htl t ht ht'
        have hself : ∀ t ∈ o.looksAt ops, (∃ j, dstOf ops j = some t ∧ listed.getD j false = true ∧ j < i) ∨ ∀ j, dstOf ops j = some t → ¬ listed.getD j false = true ∧ ¬ j < i := fun t ht => by
          by_cases hex : ∃ j, j < n ∧ dstOf ops j = some t
          · obtain ⟨j, hjn, hj⟩ := hex
            obtain ⟨p, hp, hpt⟩ := Option.bind_eq_some_iff.1 hj
            obtain ⟨e, he, hb, rfl⟩ := c4 i j o p t hin hjn ho hp hpt ht
            exact .inl ⟨e.on, hj, h2 e he hb, c2 i o ho e he hb⟩
          · exact .inr fun j hj => ⟨fun hl => hex ⟨j, lt_of_listed j hl, hj⟩, fun hl => hex ⟨j, by omega, hj⟩⟩
        have hreach : ∀ j ∈ reach ops ops.size i, listed.getD j false = true :=
          reach_listed (L := fun j => listed.getD j false = true) hcl ops.size i (fun p hp e he hb => by
            obtain rfl : o = p := by rw [ho] at hp; simpa using hp
            exact h2 e he hb)
        have hdist : ∀ j t, listed.getD j false = true → dstOf ops j = some t → dstOf ops i = some t → j = i := fun j t _ hj hi' => by
          obtain ⟨p, hp, hpt⟩ := Option.bind_eq_some_iff.1 hj
          obtain ⟨q, hq, hqt⟩ := Option.bind_eq_some_iff.1 hi'
          exact c3 j i p q t (lt_of_listed j ‹_›) hin hp hq hqt hpt
        have hsel : ∀ cs c, o.op ≠ .select cs c := fun cs c => Region.noSelect_spec c1 i o cs c ho
        have hfr := laid_frm hc a0 G x i (by omega)
        obtain ⟨he, hwa⟩ := Laid.same hla hfr hsel hself
        have hlaid' : Laid ops a0 G x (fun j => (listed.setIfInBounds i true).getD j false = true) (a.put o.dst (G i x)) := by
          have := hla.put i hdist
          rw [hd] at this
          have e : (fun j => listed.getD j false = true ∨ j = i) = fun j => (listed.setIfInBounds i true).getD j false = true := funext fun j => propext (hset j).symm
          rwa [e] at this
        have hs := hspec i o (Nat.zero_le _) (by rw [htn]; omega) ho
        have adm : Adm ops (fun j => listed.getD j false) i := ⟨hun, hreach, fun j hj => reach_listed (L := fun j => listed.getD j false = true) hcl ops.size j (fun q hq e he hb => hcl j hj q hq e he hb)⟩
        have hupd : (fun j => (listed.setIfInBounds i true).getD j false) = upd (fun j => listed.getD j false) i := by
          funext j
          by_cases e : j = i
          · subst e
            rw [(hset j).2 (.inr rfl)]
            simp [upd]
          · rw [getD_set_ne false (fun h => e h.symm)]
            have e' : Nat.beq j i = false := Bool.eq_false_iff.2 fun h => e (Nat.eq_of_beq_eq_true h)
            simp [upd, e']
        unfold wpOp
        simp only [ho]
        rcases hs with ⟨hw, hg, hsk⟩ | ⟨us, hus, _, hw, hop⟩ | ⟨hg, hw, hop⟩
        · rw [hwa, hw x]
          simp only [Bool.false_eq_true, if_false]
          have hgu : G i x = undef := by rw [hg]
          rw [hgu] at hlaid'
          exact ih _ _ w x hsz' hfu' hcl' htl' hlaid' (by rw [hupd]; exact hsk _ _ _ hSw)
        · rw [hwa, hw x]
          simp only [if_true]
          refine .inl (Oper.wp_mono ?_ (upon_transfer (R := fun v w' => v = G i x ∧ S (upd (fun j => listed.getD j false) i) x w') (b := frm ops a0 G x i) (by rw [hla.size, hfr.size]) he ?_))
          · rintro a' w' ⟨v, rfl, rfl, hS'⟩
            exact ih _ _ w' x hsz' hfu' hcl' htl' hlaid' (by rw [hupd]; exact hS')
          · refine Oper.wp_mono ?_ (hop _ x w adm hSw)
            rintro a' w' ⟨h1, h2⟩
            exact ⟨_, h1, rfl, h2⟩
        · rw [hwa, hw x]
          simp only [if_true]
          refine .inl (Oper.wp_mono ?_ (upon_transfer (R := fun v w' => S (upd (fun j => listed.getD j false) i) (upx x i v) w') (b := frm ops a0 G x i) (by rw [hla.size, hfr.size]) he ?_))
          · rintro a' w' ⟨v, rfl, hS'⟩
            have yi : upx x i v i = v := by simp [upx]
            have yo : ∀ j, j ≠ i → upx x i v j = x j := fun j hj => by
              have e' : Nat.beq j i = false := Bool.eq_false_iff.2 fun h => hj (Nat.eq_of_beq_eq_true h)
              simp [upx, e']
            have hGy : ∀ j, listed.getD j false = true → ∀ p, ops[j]? = some p → G j (upx x i v) = G j x := fun j hj p hp => by
              refine gdep j p (lt_of_listed j hj) hp (upx x i v) x fun m hm => yo m fun e => ?_
              subst e
              rcases hm with hm | rfl
              · have := reach_listed (L := fun j => listed.getD j false = true) hcl ops.size j (fun q hq e he hb => hcl j hj q hq e he hb) m hm
                rw [this] at hun; cases hun
              · rw [hj] at hun; cases hun
            have hla' : Laid ops a0 G (upx x i v) (fun j => listed.getD j false = true) a := by
              refine ⟨hla.defers, hla.size, fun j t hj ht hs => ?_, hla.off⟩
              obtain ⟨p, hp, _⟩ := Option.bind_eq_some_iff.1 ht
              rw [hGy j hj p hp]
              exact hla.on j t hj ht hs
            have hlaid2 : Laid ops a0 G (upx x i v) (fun j => (listed.setIfInBounds i true).getD j false = true) (a.put o.dst v) := by
              have := hla'.put i hdist
              rw [hd, show G i (upx x i v) = v by rw [hg]; exact yi] at this
              have e : (fun j => listed.getD j false = true ∨ j = i) = fun j => (listed.setIfInBounds i true).getD j false = true := funext fun j => propext (hset j).symm
              rwa [e] at this
            exact ih _ _ w' (upx x i v) hsz' hfu' hcl' htl' hlaid2 (by rw [hupd]; exact hS')
          · refine Oper.wp_mono ?_ (hop _ x w adm hSw)
            rintro a' w' ⟨v, h1, h2⟩
            exact ⟨v, h1, h2⟩
      rw [show fuel + 1 + (ops.size - n) = (fuel + (ops.size - n)) + 1 by omega]
      refine ⟨fun hr => ?_, step⟩
      exfalso
      have hall : ∀ i, i < ops.size → listed.getD i false = true := by
        intro i
        induction i using Nat.strongRecOn with
        | _ i ihi =>
          intro hi
          by_cases hn : listed.getD i false = true
          · exact hn
          · have hli : i < listed.size := by omega
            have : i ∈ Region.ready .any ops listed := mem_ready.2 ⟨by
                simp only [Array.getD_eq_getD_getElem?, Array.getElem?_eq_getElem hli, Option.getD_some, Bool.not_eq_true] at hn ⊢
                exact hn, ops[i], Array.getElem?_eq_getElem hi, fun e he hb => ihi e.on (c2 i _ (Array.getElem?_eq_getElem hi) e he hb) (by have := c2 i _ (Array.getElem?_eq_getElem hi) e he hb; omega)⟩
            rw [hr] at this; simp at this
      have h1 := hall j0 (by omega)
      rw [getD_both hj0.2] at h1
      cases h1
  have hcount : (unlistedTo n (Array.replicate ops.size false)).length = n := by
    unfold unlistedTo
    rw [List.filter_eq_self.2, List.length_range]
    intro i hi
    have hi' : i < ops.size := by have := List.mem_range.1 hi; omega
    simp [hi']
  have := main n _ a0 w0 (fun _ => undef) (by simp) hcount (fun i hi => ?_) (fun t _ ht => getD_in (by simpa using ht) (getD_replicate_false _ _)) ⟨rfl, rfl, fun i t hi => ?_, fun _ _ => rfl⟩ (by rw [show (fun i => (Array.replicate ops.size false).getD i false) = fun _ => false from funext fun i => getD_replicate_false _ _]; exact hS)
  · rwa [show n + (ops.size - n) = ops.size by omega] at this
  all_goals
    exfalso
    rw [getD_replicate_false] at hi
    cases hi

theorem wp_region_rg {id : Nat} {a : Act} {w : World} (n : Nat) (S : (Nat → Bool) → (Nat → Value) → World → Prop) (hm : P.follows .mixedOrders = true) (hc : regOkTo n ops = true) (ht : n = ops.size ∨ tailOk ops n = true) (hS : S (fun _ => false) (fun _ => undef) w.drew)
    (h : RG P ops S (fun _ a w => wpList P ops Q (ops.toList.drop n) a w) 0 (ops.toList.take n) (fun _ => a)) : (Code.region id ops true).wp P Q a w :=
  wp_region_any hm (RG.any hc ht h hS)
end
end Go.Proofs.YtkkjjhooamlljaaGreatDoor
namespace Go.Proofs.YtkkjjhooamlljaaGreatDoor
open Go.RowKit
set_option linter.unusedVariables false
set_option linter.unusedSimpArgs false

/-- The number of an int. -/
def intOf : Value → Int
  | .int _ n => n
  | _ => 0
/-- What is known of the values of operations that have come up. -/
def Kall {ζ : Type} : List (Nat × (ζ → Value → Prop)) → (Nat → Bool) → (Nat → Value) → ζ → Prop
  | [], _, _, _ => True
  | e :: l, d, x, p => (d e.1 = true → e.2 p (x e.1)) ∧ Kall l d x p
def Sg {ζ : Type} (W : World) (R : Rg W) (Ld : (Nat → Bool) → ζ → List Blk) (Od : (Nat → Bool) → ζ → List Own) (Ed : (Nat → Bool) → ζ → List Res) (Ks : List (Nat × (ζ → Value → Prop))) (d : Nat → Bool) (x : Nat → Value) (w : World) : Prop :=
  ∃ p, Loc W R (Ld d p) (Od d p) (Ed d p) w ∧ Kall Ks d x p
theorem kall_none {ζ : Type} (x : Nat → Value) (p : ζ) : ∀ Ks : List (Nat × (ζ → Value → Prop)), Kall Ks (fun _ => false) x p
  | [] => trivial
  | _ :: l => ⟨fun h => (Bool.false_ne_true h).elim, kall_none x p l⟩
theorem kall_other {ζ : Type} {d : Nat → Bool} {x : Nat → Value} {p : ζ} {k : Nat} : ∀ {Ks : List (Nat × (ζ → Value → Prop))}, (Ks.all fun e => !Nat.beq e.1 k) = true → Kall Ks d x p → Kall Ks (upd d k) x p
  | [], _, _ => trivial
  | e :: l, h, hk => by
    rw [List.all_cons, Bool.and_eq_true] at h
    refine ⟨fun hd => hk.1 ?_, kall_other h.2 hk.2⟩
    have h1 : Nat.beq e.1 k = false := by simpa using h.1
    unfold upd at hd
    rw [h1] at hd
    simpa using hd
structure SXg {ζ : Type} (P : Program) (n : Nat) (W : World) (R : Rg W) (ops : Array Oper) (Ld : (Nat → Bool) → ζ → List Blk) (Od : (Nat → Bool) → ζ → List Own) (Ed : (Nat → Bool) → ζ → List Res) (Ks : List (Nat × (ζ → Value → Prop))) (k : Nat) (f : (Nat → Value) → List (Nat × Value)) (l : List Oper) (Q : Exit → Act → World → Prop) : Prop where
  run : ∀ F : (Nat → Value) → Act, (∀ x, Fr n (f x) (F x)) → RG P ops (Sg W R Ld Od Ed Ks) Q k l F
/-- What an operation leaves. -/
def PostG {ζ : Type} (W : World) (R : Rg W) (Ld : (Nat → Bool) → ζ → List Blk) (Od : (Nat → Bool) → ζ → List Own) (Ed : (Nat → Bool) → ζ → List Res) (Ks : List (Nat × (ζ → Value → Prop))) (d : Nat → Bool) (k : Nat) (x : Nat → Value) (dst : Option Tmp) (e : Exit) (a : Act) (w : World) : Prop :=
  e = .normal ∧ a.defers = [] ∧ ∃ (p : ζ) (v : Value), (∀ dd, dst = some dd → a.tmps[dd]? = some v) ∧ Loc W R (Ld (upd d k) p) (Od (upd d k) p) (Ed (upd d k) p) w ∧ Kall Ks (upd d k) (upx x k v) p

theorem wp_of_list {P : Program} {ops : Array Oper} {o : Oper} {a : Act} {w : World} {K : Act → World → Prop} (hd : a.defers = []) (hw : Region.wanted o (yielded ops a.tmps) = true)
    (h : wpList P ops (fun e a' w' => e = .normal ∧ a'.defers = [] ∧ K a' w') [o] a w) : o.wp P a w (fun a' w' => ∃ v, a' = a.put o.dst v ∧ K a' w') never := by
  unfold wpList at h
  rw [if_pos hw] at h
  rcases h with h | ⟨_, _, _, h, _⟩
  · unfold Oper.wp at *
    generalize (execOp a.eval o).run P w = r at *
    cases r with
    | ok n w' =>
      cases n <;> simp only [Oper.upon, wpList] at h ⊢
      case value v => exact ⟨v, rfl, h.2.2⟩
      case skip => exact ⟨undef, rfl, h.2.2⟩
      case defer d =>
        have h1 := h.2.1
        rw [put_defers'] at h1
        cases h1
      case enter f args =>
        refine Calls.mono h fun e w'' he => ?_
        cases e with
        | returned u => exact ⟨u, rfl, he.2.2⟩
        | panicked c => exact absurd he.1 (by simp)
        | outgrown => obtain ⟨_, _, hf, _⟩ := he; exact absurd hf (by simp)
      case row row args => exact Rows.mono h fun u w'' he => ⟨u, rfl, he.2.2⟩
    | halt x w' =>
      cases x <;> simp only [Oper.upon, never] at h ⊢
      exact absurd h.1 (by simp)
  · exact absurd h (by simp)

section
variable {ζ : Type} {P : Program} {n : Nat} {W : World} {R : Rg W} {L L' : List Blk} {O O' : List Own} {E E' : List Res} {Ld : (Nat → Bool) → ζ → List Blk} {Od : (Nat → Bool) → ζ → List Own} {Ed : (Nat → Bool) → ζ → List Res} {Ks : List (Nat × (ζ → Value → Prop))} {f : (Nat → Value) → List (Nat × Value)} {f0 : List (Nat × Value)} {Q : Exit → Act → World → Prop} {ops : Array Oper} {rest : List Oper} {k : Nat}
theorem SX.drawnG {id : Nat} {l : List Oper} (m : Nat) (Ld : (Nat → Bool) → ζ → List Blk) (Od : (Nat → Bool) → ζ → List Own) (Ed : (Nat → Bool) → ζ → List Res) (Ks : List (Nat × (ζ → Value → Prop))) (p0 : ζ) (hm : P.follows .mixedOrders = true) (hc : regOkTo m l.toArray = true) (ht : (Nat.beq m l.toArray.size || tailOk l.toArray m) = true)
    (h0 : Ld (fun _ => false) p0 = L ∧ Od (fun _ => false) p0 = O ∧ Ed (fun _ => false) p0 = E)
    (h : SXg P n W R l.toArray Ld Od Ed Ks 0 (fun _ => f0) (l.take m) (fun _ a w => wpList P l.toArray Q (l.drop m) a w)) : SX P n W R L O E f0 (.region id l.toArray true) Q := ⟨fun a w hf hl => by
  refine wp_region_rg m (Sg W R Ld Od Ed Ks) hm hc ?_ ⟨p0, ?_, kall_none _ _ _⟩ (h.run _ fun _ => hf)
  · rcases Bool.or_eq_true_iff.1 ht with h1 | h1
    · exact .inl (Nat.eq_of_beq_eq_true h1)
    · exact .inr h1
  · rw [h0.1, h0.2.1, h0.2.2]
    exact hl.keep ((Mod.refl _ w).drew)⟩
theorem SXg.v {o : Oper} {d : Nat} (us : List Nat) (v : (Nat → Value) → Value) (hus : (us.all fun i => (reach ops ops.size k).contains i) = true) (hv : ∀ x y : Nat → Value, (∀ i ∈ us, x i = y i) → v x = v y)
    (hr : ∀ dn x p, Adm ops dn k → Kall Ks dn x p → OpW P n W R (Ld dn p) (Od dn p) (Ed dn p) (f x) o (v x)) (hdst : o.dst = some d) (hw : ∀ x, wantO ops (f x) o = some true) (hd : Nat.blt d n = true)
    (hs : ∀ dn p, Ld (upd dn k) p = Ld dn p ∧ Od (upd dn k) p = Od dn p ∧ Ed (upd dn k) p = Ed dn p) (hk : (Ks.all fun e => !Nat.beq e.1 k) = true)
    (h : SXg P n W R ops Ld Od Ed Ks (k + 1) (fun x => (d, v x) :: f x) rest Q) : SXg P n W R ops Ld Od Ed Ks k f (o :: rest) Q := ⟨fun F hF =>
  RG.val us v hus hv (fun x => wanted_of (hF x) (hw x)) (fun dn x w ha ⟨p, hl, hK⟩ => wp_never ((hr dn x p ha hK).run _ w (hF x) hl) fun _ _ ⟨h1, h2⟩ => ⟨h1, p, by rw [(hs dn p).1, (hs dn p).2.1, (hs dn p).2.2]; exact hl.keep h2, kall_other hk hK⟩)
    (by rw [hdst]; exact h.run _ fun x => (hF x).put hd (v x))⟩
/-- A value that hangs on no other. -/
theorem SXg.v0 {o : Oper} {d : Nat} {v : Value} (hr : ∀ dn x p, Adm ops dn k → Kall Ks dn x p → OpW P n W R (Ld dn p) (Od dn p) (Ed dn p) (f x) o v) (hdst : o.dst = some d) (hw : ∀ x, wantO ops (f x) o = some true) (hd : Nat.blt d n = true)
    (hs : ∀ dn p, Ld (upd dn k) p = Ld dn p ∧ Od (upd dn k) p = Od dn p ∧ Ed (upd dn k) p = Ed dn p) (hk : (Ks.all fun e => !Nat.beq e.1 k) = true)
    (h : SXg P n W R ops Ld Od Ed Ks (k + 1) (fun x => (d, v) :: f x) rest Q) : SXg P n W R ops Ld Od Ed Ks k f (o :: rest) Q :=
  SXg.v [] (fun _ => v) rfl (fun _ _ _ => rfl) hr hdst hw hd hs hk h
theorem SXg.no {o : Oper} {d : Nat} (hw : ∀ x, wantO ops (f x) o = some false) (hdst : o.dst = some d) (hd : Nat.blt d n = true)
    (hs : ∀ dn p, Ld (upd dn k) p = Ld dn p ∧ Od (upd dn k) p = Od dn p ∧ Ed (upd dn k) p = Ed dn p) (hk : (Ks.all fun e => !Nat.beq e.1 k) = true)
    (h : SXg P n W R ops Ld Od Ed Ks (k + 1) (fun x => (d, undef) :: f x) rest Q) : SXg P n W R ops Ld Od Ed Ks k f (o :: rest) Q := ⟨fun F hF =>
  RG.skip (fun x => wanted_of (hF x) (hw x)) (fun dn x w ⟨p, hl, hK⟩ => ⟨p, by rw [(hs dn p).1, (hs dn p).2.1, (hs dn p).2.2]; exact hl, kall_other hk hK⟩) (by rw [hdst]; exact h.run _ fun x => (hF x).put hd undef)⟩
/-- Any operation, by its rule outside regions. -/
theorem SXg.l {o : Oper} {d : Nat} (hdst : o.dst = some d) (hw : ∀ x, wantO ops (f x) o = some true) (hd : Nat.blt d n = true)
    (hr : ∀ dn x p, Adm ops dn k → Kall Ks dn x p → SXl P n W R ops (Ld dn p) (Od dn p) (Ed dn p) (f x) [o] (PostG W R Ld Od Ed Ks dn k x (some d)))
    (h : SXg P n W R ops Ld Od Ed Ks (k + 1) (fun x => (d, x k) :: f x) rest Q) : SXg P n W R ops Ld Od Ed Ks k f (o :: rest) Q := ⟨fun F hF =>
  RG.new (fun x => wanted_of (hF x) (hw x)) (fun dn x w ha ⟨p, hl, hK⟩ => by
    have h1 := wp_of_list (hF x).defers (wanted_of (hF x) (hw x)) ((hr dn x p ha hK).run _ w (hF x) hl)
    refine Oper.wp_mono ?_ h1
    rintro a' w' ⟨v, rfl, p', v', hv, h2, h3⟩
    have e := hv d rfl
    rw [hdst] at e
    rw [put_at _ d v (Nat.lt_of_lt_of_le (by simpa using hd) (hF x).size)] at e
    obtain rfl := Option.some.inj e
    exact ⟨v, rfl, p', h2, h3⟩) (by rw [hdst]; exact h.run _ fun x => (hF x).put hd _)⟩
/-- An operation that nobody takes a value from. -/
theorem SXg.s {o : Oper} (hdst : o.dst = none) (hw : ∀ x, wantO ops (f x) o = some true)
    (hr : ∀ dn x p, Adm ops dn k → Kall Ks dn x p → SXl P n W R ops (Ld dn p) (Od dn p) (Ed dn p) (f x) [o] (PostG W R Ld Od Ed Ks dn k x none)) (hk : (Ks.all fun e => !Nat.beq e.1 k) = true)
    (h : SXg P n W R ops Ld Od Ed Ks (k + 1) f rest Q) : SXg P n W R ops Ld Od Ed Ks k f (o :: rest) Q := ⟨fun F hF =>
  RG.new (fun x => wanted_of (hF x) (hw x)) (fun dn x w ha ⟨p, hl, hK⟩ => by
    have h1 := wp_of_list (hF x).defers (wanted_of (hF x) (hw x)) ((hr dn x p ha hK).run _ w (hF x) hl)
    refine Oper.wp_mono ?_ h1
    rintro a' w' ⟨v, rfl, p', v', _, h2, h3⟩
    refine ⟨v, rfl, p', h2, ?_⟩
    have other : ∀ (Ks : List (Nat × (ζ → Value → Prop))) (v v' : Value), (Ks.all fun e => !Nat.beq e.1 k) = true → Kall Ks (upd dn k) (upx x k v) p' → Kall Ks (upd dn k) (upx x k v') p' := by
      intro Ks v v'
      induction Ks with
      | nil => intro _ _; trivial
      | cons e l ih =>
        intro hk hK
        rw [List.all_cons, Bool.and_eq_true] at hk
        have h1 : Nat.beq e.1 k = false := by simpa using hk.1
        have e1 : ∀ v, upx x k v e.1 = x e.1 := fun v => by unfold upx; rw [h1]; rfl
        exact ⟨fun hd => by have := hK.1 hd; rw [e1] at this ⊢; exact this, ih hk.2 hK.2⟩
    exact other Ks v' v hk h3) (by rw [hdst]; exact h.run _ fun x => (hF x).puto _)⟩
theorem SQ.g {f' : List (Nat × Value)} {dn : Nat → Bool} {x : Nat → Value} {d : Nat} (p : ζ) (v : Value) (hv : look f' d = some v) (hL : ∀ w, Loc W R L O E w → Loc W R (Ld (upd dn k) p) (Od (upd dn k) p) (Ed (upd dn k) p) w) (hk : Kall Ks (upd dn k) (upx x k v) p) :
    SQ n W R L O E f' .normal (PostG W R Ld Od Ed Ks dn k x (some d)) := ⟨fun a w hf hl => ⟨rfl, hf.defers, p, v, fun dd hd => (Option.some.inj hd) ▸ hf.at_ _ _ hv, hL w hl, hk⟩⟩
theorem SQ.gs {f' : List (Nat × Value)} {dn : Nat → Bool} {x : Nat → Value} (p : ζ) (hL : ∀ w, Loc W R L O E w → Loc W R (Ld (upd dn k) p) (Od (upd dn k) p) (Ed (upd dn k) p) w) (hk : Kall Ks (upd dn k) (upx x k undef) p) :
    SQ n W R L O E f' .normal (PostG W R Ld Od Ed Ks dn k x none) := ⟨fun a w hf hl => ⟨rfl, hf.defers, p, undef, fun dd hd => (nomatch hd), hL w hl, hk⟩⟩
theorem SXg.nil (h : ∀ x p, Kall Ks (fun i => Nat.blt i k) x p → SQ n W R (Ld (fun i => Nat.blt i k) p) (Od (fun i => Nat.blt i k) p) (Ed (fun i => Nat.blt i k) p) (f x) .normal Q) : SXg P n W R ops Ld Od Ed Ks k f [] Q := ⟨fun F hF =>
  RG.done fun x w ⟨p, hl, hK⟩ => (h x p hK).run (F x) w (hF x) hl⟩
theorem SXg.nilW (h : ∀ x p, Kall Ks (fun i => Nat.blt i k) x p → SQ n W R (Ld (fun i => Nat.blt i k) p) (Od (fun i => Nat.blt i k) p) (Ed (fun i => Nat.blt i k) p) (f x) .normal Q) : SXg P n W R ops Ld Od Ed Ks k f [] (fun _ a w => wpList P ops Q [] a w) := ⟨fun F hF =>
  RG.done fun x w ⟨p, hl, hK⟩ => (h x p hK).run (F x) w (hF x) hl⟩
theorem SXg.tail (h : ∀ x p, Kall Ks (fun i => Nat.blt i k) x p → SXl P n W R ops (Ld (fun i => Nat.blt i k) p) (Od (fun i => Nat.blt i k) p) (Ed (fun i => Nat.blt i k) p) (f x) rest Q) : SXg P n W R ops Ld Od Ed Ks k f [] (fun _ a w => wpList P ops Q rest a w) := ⟨fun F hF =>
  RG.done fun x w ⟨p, hl, hK⟩ => (h x p hK).run (F x) w (hF x) hl⟩
theorem Loc.blkPerm {w : World} (h : Loc W R L O E w) (hs : L'.Perm L) : Loc W R L' O E w where
  mod := h.mod
  inv := h.inv
  blk := fun b hb => h.blk b (hs.subset hb)
  apart := (hs.symm.pairwise_iff (fun {a b} hab e => hab e.symm)).1 h.apart
  own := fun o ho => ⟨(h.own o ho).1, fun b hb => (h.own o ho).2 b (hs.subset hb)⟩
  ownApart := h.ownApart
  res := fun F hF => ⟨(h.res F hF).1, (h.res F hF).2.1, fun b hb => (h.res F hF).2.2.1 b (hs.subset hb), (h.res F hF).2.2.2⟩
  resNew := h.resNew
  resApart := h.resApart
theorem Loc.blkSub {w : World} (h : Loc W R L O E w) (hs : L'.Sublist L) : Loc W R L' O E w where
  mod := h.mod
  inv := h.inv
  blk := fun b hb => h.blk b (hs.subset hb)
  apart := h.apart.sublist hs
  own := fun o ho => ⟨(h.own o ho).1, fun b hb => (h.own o ho).2 b (hs.subset hb)⟩
  ownApart := h.ownApart
  res := fun F hF => ⟨(h.res F hF).1, (h.res F hF).2.1, fun b hb => (h.res F hF).2.2.1 b (hs.subset hb), (h.res F hF).2.2.2⟩
  resNew := h.resNew
  resApart := h.resApart
/-- Of the blocks only the first are held on. -/
theorem Loc.blkTake {w : World} (h : Loc W R L O E w) (k : Nat) : Loc W R (L.take k) O E w := h.blkSub (List.take_sublist k L)
theorem Loc.blkLast {b : Blk} {w : World} (h : Loc W R (b :: L) O E w) : Loc W R (L ++ [b]) O E w := h.blkPerm (List.perm_append_singleton b L)
end
end Go.Proofs.YtkkjjhooamlljaaGreatDoor
namespace Go.Proofs.YtkkjjhooamlljaaGreatDoor
open Go.RowKit
set_option linter.unusedVariables false

section
variable {P : Program} {n : Nat} {W : World} {R : Rg W} {L : List Blk} {O : List Own} {E : List Res} {f : List (Nat × Value)} {Q : Exit → Act → World → Prop} {ops : Array Oper} {rest : List Oper}
theorem SXl.know {φ : Prop} (hφ : ∀ w, Loc W R L O E w → φ) (h : φ → SXl P n W R ops L O E f rest Q) : SXl P n W R ops L O E f rest Q := ⟨fun a w hf hl => (h (hφ w hl)).run a w hf hl⟩
theorem SX.know {φ : Prop} {co : Code} (hφ : ∀ w, Loc W R L O E w → φ) (h : φ → SX P n W R L O E f co Q) : SX P n W R L O E f co Q := ⟨fun a w hf hl => (h (hφ w hl)).run a w hf hl⟩
end
end Go.Proofs.YtkkjjhooamlljaaGreatDoor
namespace Go.Proofs.YtkkjjhooamlljaaGreatDoor
open Go.RowKit

end Go.Proofs.YtkkjjhooamlljaaGreatDoor
namespace Go.Proofs.YtkkjjhooamlljaaGreatDoor
open Go.RowKit
set_option linter.unusedVariables false
set_option linter.unusedSimpArgs false

theorem pick_g {W : World} {B gc b : Nat} {hg : gc < W.heap.size} {hB : B ≤ gc} {L : List Blk} {O : List Own} {E : List Res} {w : World} {l : List Int} (hl : Loc W (curRg 100 B gc W hg hB) L O E w) (hm : (⟨b, l.map (.int .i64), 3⟩ : Blk) ∈ L) (h0 : 0 < l.length) (h1 : l.length ≤ 1000) :
    Calls Tryz.prog 101 #[.pointer (some ⟨gc, 0, none⟩), .slice (some ⟨b, 0, none⟩) l.length l.length] w (DrewV 100 B gc w (fun x : Int => .int .i64 x) (fun x => x ∈ l)) := by
  obtain ⟨hb, hcell⟩ := hl.blk _ hm
  have hne : b ≠ gc := by
    rcases hb with h | h
    · exact h.elim
    · simp only at h; omega
  refine (l01PickInt_any B gc w hl.inv b l.length l (fun i hi => ?_) h0 h1 hne).mono fun e w' h => Drew.v h
  have := blk_cell (j := i) (v := .int .i64 (l.getD i 0)) hcell (by simp [List.getElem?_eq_getElem hi, List.getD, hi])
  rw [Nat.zero_add]
  exact this
/-- Rules of the call's own. -/
structure RuleQ where
  l : List Rule
  a : Option Addr
  c : Nat
def RuleQ.v (q : RuleQ) : Value := .agg [.slice q.a q.l.length q.c].toArray
def RuleQ.o (q : RuleQ) : Own := ⟨.slice q.a q.l.length q.c, 70, 3, q.l.length, (q.l.map Rule.cells).flatten⟩
/-- What a round of the draw holds. -/
structure RuleG where
  g1 : Nat
  n0 : Int
  n1 : Int
  n2 : Int
  g2 : Nat
  a : Option Addr
  c : Nat
  deriving Inhabited
set_option maxRecDepth 100000 in
set_option maxHeartbeats 16000000 in
theorem l09Table_o (B gc : Nat) (w : World) (hc : Cur B 100 w gc) :
    Calls Tryz.prog 85 #[.pointer (some ⟨gc, 0, none⟩)] w (DrewO RuleQ 100 B gc RuleQ.v (fun q => [q.o]) (fun q => 1 ≤ q.l.length ∧ q.l.length ≤ 3) w) := by
  refine calls_draw (as_ := [.pointer (some ⟨gc, 0, none⟩)]) hc Tryz.func85 rfl rfl (fun a h1 h2 h3 => ((Fr.nil h1 h2).arg (h3 0 _ rfl))) ?_
  repeat (first | refine qap ?_ | refine qak ?_ | refine qaf ?_ | refine qab ?_ | refine SX.block ?_ | (refine qaO ?_; (refine qaa ((qaz (vals := []) (cells := [.slice none 0 0]) rfl (by kernel_rfl))) rfl ?_ ?_ ?_); rfl; rfl) | (refine qai ?_; (refine qaa (qae rfl) rfl ?_ ?_ ?_); rfl; rfl) | (refine qaT ?_; refine SXl.alloc ?_ ?_ (fun g => ?_); rfl; rfl) | (refine qaD ?_; first | ((first | refine qah 0 ?_ rfl rfl rfl rfl rfl rfl ?_ | refine qah 1 ?_ rfl rfl rfl rfl rfl rfl ?_ | refine qah 2 ?_ rfl rfl rfl rfl rfl rfl ?_); rfl; simp only [List.set_cons_zero, List.set_cons_succ]) | ((first | refine qad 0 ?_ rfl rfl rfl rfl rfl rfl rfl ?_ | refine qad 1 ?_ rfl rfl rfl rfl rfl rfl rfl ?_ | refine qad 2 ?_ rfl rfl rfl rfl rfl rfl rfl ?_); rfl; simp only [List.set_cons_zero, List.set_cons_succ]) | ((first | refine qac 0 ?_ rfl rfl rfl rfl rfl rfl rfl ?_ | refine qac 1 ?_ rfl rfl rfl rfl rfl rfl rfl ?_ | refine qac 2 ?_ rfl rfl rfl rfl rfl rfl rfl ?_); rfl; simp only [over, List.set_cons_zero, List.set_cons_succ])))
  rename_i g2
  revert g; intro g3
  refine SX.ownNil 70 3 ?_
  refine SX.loop3 (fun (i : Nat) (q : RuleQ) (_ : Unit) => i ≤ 3 ∧ q.l.length = i) (fun i _ _ => 4 - i) (fun _ q _ => [⟨g3, [.slice q.a q.l.length q.c], 26⟩, ⟨g2, [.slice none 0 0], 26⟩]) (fun _ q _ => [q.o]) (fun _ _ _ => []) (fun i _ _ => [(0, .pointer (some ⟨gc, 0, none⟩)), (2, .pointer (some ⟨g2, 0, none⟩)), (3, .pointer (some ⟨g3, 0, none⟩)), (4, .int .i64 i)]) 0 ⟨[], none, 0⟩ () ⟨by omega, rfl⟩ ?_ (fun w hl => hl) ?_
  · (repeat (first | exact subF_nil _ | (refine subF_cons rfl ?_) | (refine subF_consv rfl (by rfl) ?_)))
  · rintro i q _ ⟨hi, hn⟩
    repeat (first | refine qap ?_ | refine qaf ?_ | (refine qau ?_; (refine qaa (qaj rfl) rfl ?_ ?_ ?_); rfl; rfl))
    refine qaA ?_
    refine SXl.draw (ξ := Int) (v := fun x : Int => .int .i64 x) rfl rfl rfl (fun x => 0 ≤ x ∧ x < 3) (fun w hl => below_d B gc w hl.inv 3 (by decide) (by decide)) (fun x hx => ?_)
    by_cases hlt : (i : Int) ≤ x
    rotate_left
    · repeat (first | refine qap ?_ | refine qak ?_ | refine qaf ?_ | refine qab ?_ | refine qas rfl ?_ | (refine qaF ?_; (refine qaa (qaq 0 rfl rfl rfl) rfl ?_ ?_ ?_); rfl; rfl) | (refine l_leq ?_; (refine qaa (OpW.leqF rfl rfl (by omega)) rfl ?_ ?_ ?_); rfl; rfl) | (refine qaD ?_; first | ((first | refine qah 0 ?_ rfl rfl rfl rfl rfl rfl ?_ | refine qah 1 ?_ rfl rfl rfl rfl rfl rfl ?_ | refine qah 2 ?_ rfl rfl rfl rfl rfl rfl ?_); rfl; simp only [List.set_cons_zero, List.set_cons_succ]) | ((first | refine qad 0 ?_ rfl rfl rfl rfl rfl rfl rfl ?_ | refine qad 1 ?_ rfl rfl rfl rfl rfl rfl rfl ?_ | refine qad 2 ?_ rfl rfl rfl rfl rfl rfl rfl ?_); rfl; simp only [List.set_cons_zero, List.set_cons_succ]) | ((first | refine qac 0 ?_ rfl rfl rfl rfl rfl rfl rfl ?_ | refine qac 1 ?_ rfl rfl rfl rfl rfl rfl rfl ?_ | refine qac 2 ?_ rfl rfl rfl rfl rfl rfl rfl ?_); rfl; simp only [over, List.set_cons_zero, List.set_cons_succ])) | refine qav ?_ | refine SX.exit ?_ | refine SQ.thenExit ?_ | refine SQ.blockExit ?_)
      refine qaN 1 rfl rfl rfl rfl (fun w' hl => ⟨q, rfl, ⟨by omega, by omega⟩, hl.owns, hl.mod, hl.inv⟩)
    repeat (first | refine qap ?_ | refine qak ?_ | refine qab ?_ | refine SX.block ?_ | refine qaE ?_ | refine qao rfl ?_ | (refine l_leq ?_; (refine qaa (OpW.leqT rfl rfl (by omega)) rfl ?_ ?_ ?_); rfl; rfl))
    refine SX.drawnG (ζ := RuleG) 11 (fun d p => [⟨g3, [.slice q.a q.l.length q.c], 26⟩, ⟨g2, [.slice none 0 0], 26⟩] ++ (bif d 3 then [⟨p.g1, ([-1, 0, 100, 640, 1000] : List Int).map (.int .i64), 3⟩] else []) ++ (bif d 10 then [⟨p.g2, (Rule.mk p.n0 p.n1 p.n2).cells, 70⟩] else [])) (fun _ _ => [q.o]) (fun _ _ => [])
      [(3, fun p v => v = .slice (some ⟨p.g1, 0, none⟩) 5 5), (4, fun p v => v = .int .i64 p.n0), (6, fun p v => v = .int .i64 p.n1), (8, fun p v => v = .int .i64 p.n2), (10, fun p v => v = .slice (some ⟨p.g2, 0, none⟩) 1 1)] default (by kernel_rfl) (by kernel_rfl) (by kernel_rfl) ⟨rfl, rfl, rfl⟩ ?_
    repeat (first | (refine SXg.v0 (fun dn x p ha hK => (qat 0 rfl rfl rfl)) rfl (fun _ => rfl) rfl (fun _ _ => ⟨rfl, rfl, rfl⟩) rfl ?_) | (refine SXg.v0 (fun dn x p ha hK => (qag rfl)) rfl (fun _ => rfl) rfl (fun _ _ => ⟨rfl, rfl, rfl⟩) rfl ?_) | (refine SXg.v0 (fun dn x p ha hK => (qaj rfl)) rfl (fun _ => rfl) rfl (fun _ _ => ⟨rfl, rfl, rfl⟩) rfl ?_))
    refine SXg.l rfl (fun _ => rfl) rfl (fun dn x p ha hk => ?_) ?_
    · have d10 : dn 10 = false := ha.later 10 (by kernel_rfl)
      have u10 : upd dn 3 10 = false := d10
      have d3 : dn 3 = false := ha.not
      have u3 : upd dn 3 3 = true := rfl
      have u4 : upd dn 3 4 = dn 4 := rfl
      have u6 : upd dn 3 6 = dn 6 := rfl
      have u8 : upd dn 3 8 = dn 8 := rfl
      simp only [d10, d3, cond_true, cond_false, List.append_nil, List.nil_append]
      refine SXl.lit (cells := ([-1, 0, 100, 640, 1000] : List Int).map (.int .i64)) (z := .int .i64 0) rfl rfl rfl (by decide) (by kernel_rfl) rfl (fun g => ?_)
      refine qak (SQ.g { p with g1 := g } _ rfl (fun w hl => ?_) ⟨fun _ => rfl, hk.2.1, hk.2.2.1, hk.2.2.2.1, hk.2.2.2.2.1, trivial⟩)
      simp only [u10, u3, u4, u6, u8, cond_true, cond_false, List.append_nil, List.nil_append]
      exact hl.blkLast
    skip
    refine SXg.l rfl (fun _ => rfl) rfl (fun dn x p ha hk => ?_) ?_
    · have d3 : dn 3 = true := ha.done 3 (by kernel_rfl)
      have u3 : upd dn 4 3 = true := d3
      have d10 : dn 10 = false := ha.later 10 (by kernel_rfl)
      have u10 : upd dn 4 10 = false := d10
      have d6 : dn 6 = false := ha.later 6 (by kernel_rfl)
      have u6 : upd dn 4 6 = false := d6
      have d8 : dn 8 = false := ha.later 8 (by kernel_rfl)
      have u8 : upd dn 4 8 = false := d8
      have d4 : dn 4 = false := ha.not
      have u4 : upd dn 4 4 = true := rfl
      simp only [d3, d10, d6, d8, d4, cond_true, cond_false, List.append_nil, List.nil_append]
      have x3 : x 3 = .slice (some ⟨p.g1, 0, none⟩) 5 5 := hk.1 d3
      simp only [x3]
      refine SXl.draw (ξ := Int) (v := fun x => .int .i64 x) rfl rfl rfl (fun x => x ∈ ([-1, 0, 100, 640, 1000] : List Int)) (fun w hl => pick_g (l := [-1, 0, 100, 640, 1000]) hl (by simp) (by decide) (by decide)) (fun y hy => ?_)
      refine qak (SQ.g { p with n0 := y } _ rfl (fun w hl => ?_) ⟨hk.1, fun _ => rfl, hk.2.2.1, hk.2.2.2.1, hk.2.2.2.2.1, trivial⟩)
      simp only [u3, u10, u6, u8, u4, cond_true, cond_false, List.append_nil, List.nil_append]
      exact hl
    repeat ((refine SXg.v0 (fun dn x p ha hK => (qaj rfl)) rfl (fun _ => rfl) rfl (fun _ _ => ⟨rfl, rfl, rfl⟩) rfl ?_))
    refine SXg.l rfl (fun _ => rfl) rfl (fun dn x p ha hk => ?_) ?_
    · have d3 : dn 3 = true := ha.done 3 (by kernel_rfl)
      have u3 : upd dn 6 3 = true := d3
      have d4 : dn 4 = true := ha.done 4 (by kernel_rfl)
      have u4 : upd dn 6 4 = true := d4
      have d10 : dn 10 = false := ha.later 10 (by kernel_rfl)
      have u10 : upd dn 6 10 = false := d10
      have d8 : dn 8 = false := ha.later 8 (by kernel_rfl)
      have u8 : upd dn 6 8 = false := d8
      have d6 : dn 6 = false := ha.not
      have u6 : upd dn 6 6 = true := rfl
      simp only [d3, d4, d10, d8, d6, cond_true, cond_false, List.append_nil, List.nil_append]
      refine SXl.draw (ξ := Int) (v := fun x => .int .i64 x) rfl rfl rfl (fun x => 0 ≤ x ∧ x < 1500) (fun w hl => below_d B gc w hl.inv 1500 (by decide) (by decide)) (fun y hy => ?_)
      refine qak (SQ.g { p with n1 := y } _ rfl (fun w hl => ?_) ⟨hk.1, hk.2.1, fun _ => rfl, hk.2.2.2.1, hk.2.2.2.2.1, trivial⟩)
      simp only [u3, u4, u10, u8, u6, cond_true, cond_false, List.append_nil, List.nil_append]
      exact hl
    repeat ((refine SXg.v0 (fun dn x p ha hK => (qaj rfl)) rfl (fun _ => rfl) rfl (fun _ _ => ⟨rfl, rfl, rfl⟩) rfl ?_))
    refine SXg.l rfl (fun _ => rfl) rfl (fun dn x p ha hk => ?_) ?_
    · have d3 : dn 3 = true := ha.done 3 (by kernel_rfl)
      have u3 : upd dn 8 3 = true := d3
      have d4 : dn 4 = true := ha.done 4 (by kernel_rfl)
      have u4 : upd dn 8 4 = true := d4
      have d6 : dn 6 = true := ha.done 6 (by kernel_rfl)
      have u6 : upd dn 8 6 = true := d6
      have d10 : dn 10 = false := ha.later 10 (by kernel_rfl)
      have u10 : upd dn 8 10 = false := d10
      have d8 : dn 8 = false := ha.not
      have u8 : upd dn 8 8 = true := rfl
      simp only [d3, d4, d6, d10, d8, cond_true, cond_false, List.append_nil, List.nil_append]
      refine SXl.draw (ξ := Int) (v := fun x => .int .i64 x) rfl rfl rfl (fun x => 0 ≤ x ∧ x < 600) (fun w hl => below_d B gc w hl.inv 600 (by decide) (by decide)) (fun y hy => ?_)
      refine qak (SQ.g { p with n2 := y } _ rfl (fun w hl => ?_) ⟨hk.1, hk.2.1, hk.2.2.1, fun _ => rfl, hk.2.2.2.2.1, trivial⟩)
      simp only [u3, u4, u6, u10, u8, cond_true, cond_false, List.append_nil, List.nil_append]
      exact hl
    skip
    refine SXg.v [4, 6, 8] (fun x => .agg [x 4, x 6, x 8].toArray) (by kernel_rfl) (fun x y h => by rw [h 4 (by simp), h 6 (by simp), h 8 (by simp)]) (fun dn x p ha hk => ?_) rfl (fun _ => rfl) rfl (fun _ _ => ⟨rfl, rfl, rfl⟩) rfl ?_
    · have x4 : x 4 = .int .i64 p.n0 := hk.2.1 (ha.done 4 (by kernel_rfl))
      have x6 : x 6 = .int .i64 p.n1 := hk.2.2.1 (ha.done 6 (by kernel_rfl))
      have x8 : x 8 = .int .i64 p.n2 := hk.2.2.2.1 (ha.done 8 (by kernel_rfl))
      simp only [x4, x6, x8]
      exact qaz (vals := [(0, .int .i64 p.n0), (1, .int .i64 p.n1), (2, .int .i64 p.n2)]) rfl (by kernel_rfl)
    refine SXg.l rfl (fun _ => rfl) rfl (fun dn x p ha hk => ?_) ?_
    · have d3 : dn 3 = true := ha.done 3 (by kernel_rfl)
      have u3 : upd dn 10 3 = true := d3
      have d4 : dn 4 = true := ha.done 4 (by kernel_rfl)
      have u4 : upd dn 10 4 = true := d4
      have d6 : dn 6 = true := ha.done 6 (by kernel_rfl)
      have u6 : upd dn 10 6 = true := d6
      have d8 : dn 8 = true := ha.done 8 (by kernel_rfl)
      have u8 : upd dn 10 8 = true := d8
      have d10 : dn 10 = false := ha.not
      have u10 : upd dn 10 10 = true := rfl
      simp only [d3, d4, d6, d8, d10, cond_true, cond_false, List.append_nil, List.nil_append]
      have x4 : x 4 = .int .i64 p.n0 := hk.2.1 d4
      have x6 : x 6 = .int .i64 p.n1 := hk.2.2.1 d6
      have x8 : x 8 = .int .i64 p.n2 := hk.2.2.2.1 d8
      simp only [x4, x6, x8]
      refine SXl.litRow1 (sz := 3) (r := (Rule.mk p.n0 p.n1 p.n2).cells) rfl rfl rfl rfl rfl (by decide) (by decide) (fun g => ?_)
      refine qak (SQ.g { p with g2 := g } _ rfl (fun w hl => ?_) ⟨hk.1, hk.2.1, hk.2.2.1, hk.2.2.2.1, fun _ => rfl, trivial⟩)
      simp only [u3, u4, u6, u8, u10, cond_true, cond_false, List.append_nil, List.nil_append]
      exact hl.blkLast
    refine SXg.tail (fun xq pq hkq => ?_)
    have x10 : xq 10 = .slice (some ⟨pq.g2, 0, none⟩) 1 1 := hkq.2.2.2.2.1 rfl
    simp only [x10]
    refine l_append ?_
    refine SXl.append 0 3 rfl rfl rfl rfl rfl rfl rfl rfl (by omega) (by omega) (fun a' c' => ?_)
    repeat (first | refine qak ?_ | refine qaf ?_ | refine qab ?_ | (refine qam ?_; (refine qaa (qag rfl) rfl ?_ ?_ ?_); rfl; rfl) | (refine qau ?_; (refine qaa (qaj rfl) rfl ?_ ?_ ?_); rfl; rfl) | (refine qai ?_; (refine qaa (qae rfl) rfl ?_ ?_ ?_); rfl; rfl) | (refine l_add ?_; (refine qaa (OpW.succ rfl rfl (by omega)) rfl ?_ ?_ ?_); rfl; rfl) | (refine qaD ?_; first | ((first | refine qah 0 ?_ rfl rfl rfl rfl rfl rfl ?_ | refine qah 1 ?_ rfl rfl rfl rfl rfl rfl ?_ | refine qah 2 ?_ rfl rfl rfl rfl rfl rfl ?_); rfl; simp only [List.set_cons_zero, List.set_cons_succ]) | ((first | refine qad 0 ?_ rfl rfl rfl rfl rfl rfl rfl ?_ | refine qad 1 ?_ rfl rfl rfl rfl rfl rfl rfl ?_ | refine qad 2 ?_ rfl rfl rfl rfl rfl rfl rfl ?_); rfl; simp only [List.set_cons_zero, List.set_cons_succ]) | ((first | refine qac 0 ?_ rfl rfl rfl rfl rfl rfl rfl ?_ | refine qac 1 ?_ rfl rfl rfl rfl rfl rfl rfl ?_ | refine qac 2 ?_ rfl rfl rfl rfl rfl rfl rfl ?_); rfl; simp only [over, List.set_cons_zero, List.set_cons_succ])) | refine qar ?_)
    have hO : (⟨.slice a' (q.l.length + 1) c', 70, 3, q.l.length + 1, (q.l.map Rule.cells).flatten ++ (Rule.mk pq.n0 pq.n1 pq.n2).cells⟩ : Own) = RuleQ.o ⟨q.l ++ [⟨pq.n0, pq.n1, pq.n2⟩], a', c'⟩ := by
      unfold RuleQ.o
      rw [List.length_append, List.map_append, List.flatten_append]
      simp
    refine SQ.round3 (i + 1) ⟨q.l ++ [⟨pq.n0, pq.n1, pq.n2⟩], a', c'⟩ () ⟨by omega, by simp [hn]⟩ (by omega) ?_ (fun w hl => ?_)
    · (repeat (first | exact subF_nil _ | (refine subF_cons rfl ?_) | (refine subF_consv rfl (by rfl) ?_)))
    · have h2 := hl.blkTake 2
      rw [← hO, List.length_append]
      exact h2
theorem rules_addr {base : Nat} {w : World} {q : RuleQ} (h : Owns base w [q.o]) (h0 : 0 < q.l.length) : ∃ g, q.a = some ⟨g, 0, none⟩ := by
  have h1 := h.row _ (.head _)
  simp only [RuleQ.o] at h1
  rcases h1.2 with ⟨_, hn⟩ | ⟨g, cap, cur, hv, _⟩
  · omega
  · injection hv with ha _ _
    exact ⟨g, ha⟩
set_option maxRecDepth 100000 in
set_option maxHeartbeats 16000000 in
theorem l09Any_o (B gc : Nat) (w : World) (hc : Cur B 100 w gc) :
    Calls Tryz.prog 48 #[.pointer (some ⟨gc, 0, none⟩)] w (DrewO RuleQ 100 B gc RuleQ.v (fun q => [q.o]) (fun q => q.l.length ≤ 7) w) := by
  refine calls_draw (as_ := [.pointer (some ⟨gc, 0, none⟩)]) hc Tryz.func48 rfl rfl (fun a h1 h2 h3 => ((Fr.nil h1 h2).arg (h3 0 _ rfl))) ?_
  repeat (first | refine qap ?_ | refine qak ?_ | refine qaf ?_ | refine qab ?_ | (refine qau ?_; (refine qaa (qaj rfl) rfl ?_ ?_ ?_); rfl; rfl) | (refine qaT ?_; refine SXl.alloc ?_ ?_ (fun g => ?_); rfl; rfl))
  revert g; intro g2
  refine qaA ?_
  refine SXl.drawOJ rfl rfl rfl (fun w hl => l09Table_o B gc w hl.inv) (fun q hq => ?_)
  repeat (first | refine qap ?_ | refine qak ?_ | refine qaf ?_ | refine qab ?_ | (refine qau ?_; (refine qaa (qaj rfl) rfl ?_ ?_ ?_); rfl; rfl) | (refine qaT ?_; refine SXl.alloc ?_ ?_ (fun g => ?_); rfl; rfl) | (refine qaD ?_; first | ((first | refine qah 0 ?_ rfl rfl rfl rfl rfl rfl ?_ | refine qah 1 ?_ rfl rfl rfl rfl rfl rfl ?_ | refine qah 2 ?_ rfl rfl rfl rfl rfl rfl ?_); rfl; simp only [List.set_cons_zero, List.set_cons_succ]) | ((first | refine qad 0 ?_ rfl rfl rfl rfl rfl rfl rfl ?_ | refine qad 1 ?_ rfl rfl rfl rfl rfl rfl rfl ?_ | refine qad 2 ?_ rfl rfl rfl rfl rfl rfl rfl ?_); rfl; simp only [List.set_cons_zero, List.set_cons_succ]) | ((first | refine qac 0 ?_ rfl rfl rfl rfl rfl rfl rfl ?_ | refine qac 1 ?_ rfl rfl rfl rfl rfl rfl rfl ?_ | refine qac 2 ?_ rfl rfl rfl rfl rfl rfl rfl ?_); rfl; simp only [over, List.set_cons_zero, List.set_cons_succ])))
  revert g; intro g3
  refine qaA ?_
  refine SXl.draw (ξ := Int) (v := fun x : Int => .int .i64 x) rfl rfl rfl (fun x => 0 ≤ x ∧ x < 10) (fun w hl => below_d B gc w hl.inv 10 (by decide) (by decide)) (fun y hy => ?_)
  refine SXl.know (fun w hl => rules_addr (q := q) hl.owns (by omega)) (fun ⟨gt, hgt⟩ => ?_)
  obtain ⟨ql, qa, qc⟩ := q
  simp only at hgt hq
  subst hgt
  change SXl _ _ _ _ _ [⟨g3, [.slice (some ⟨gt, 0, none⟩) ql.length qc], 26⟩, ⟨g2, [.slice none 0 0], 26⟩] [RuleQ.o ⟨ql, some ⟨gt, 0, none⟩, qc⟩] [] _ _ _
  obtain ⟨r0, rs, rfl⟩ : ∃ r0 rs, ql = r0 :: rs := by
    cases ql with
    | nil => simp at hq
    | cons r0 rs => exact ⟨r0, rs, rfl⟩
  by_cases y0 : y = 0
  · repeat (first | refine qap ?_ | refine qak ?_ | refine qaf ?_ | refine qab ?_ | refine SX.block ?_ | refine qao rfl ?_ | (refine qai ?_; (refine qaa (qae rfl) rfl ?_ ?_ ?_); rfl; rfl) | (refine qaK ?_; (refine qaa (qaI rfl rfl (by omega)) rfl ?_ ?_ ?_); rfl; rfl))
    refine SX.drawnG (ζ := Int) 4 (fun _ _ => [⟨g3, [.slice (some ⟨gt, 0, none⟩) (r0 :: rs).length qc], 26⟩, ⟨g2, [.slice none 0 0], 26⟩]) (fun _ _ => [RuleQ.o ⟨r0 :: rs, some ⟨gt, 0, none⟩, qc⟩]) (fun _ _ => []) [(3, fun n v => v = .int .i64 n)] 0 (by kernel_rfl) (by kernel_rfl) (by kernel_rfl) ⟨rfl, rfl, rfl⟩ ?_
    repeat (first | (refine SXg.v0 (fun dn x p ha hK => (qat 0 rfl rfl rfl)) rfl (fun _ => rfl) rfl (fun _ _ => ⟨rfl, rfl, rfl⟩) rfl ?_) | (refine SXg.v0 (fun dn x p ha hK => (qag rfl)) rfl (fun _ => rfl) rfl (fun _ _ => ⟨rfl, rfl, rfl⟩) rfl ?_) | (refine SXg.v0 (fun dn x p ha hK => (qaj rfl)) rfl (fun _ => rfl) rfl (fun _ _ => ⟨rfl, rfl, rfl⟩) rfl ?_))
    refine SXg.l rfl (fun _ => rfl) rfl (fun dn x p ha hk => ?_) ?_
    · refine SXl.draw (ξ := Int) (v := fun x => .int .i64 x) rfl rfl rfl (fun x => I64 x) (fun w hl => l02Int_d B gc w hl.inv) (fun n hn => ?_)
      exact qak (SQ.g n _ rfl (fun w hl => hl) ⟨fun _ => rfl, trivial⟩)
    refine SXg.tail (fun xq n hkq => ?_)
    have x3 : xq 3 = .int .i64 n := hkq.1 rfl
    simp only [x3]
    repeat (first | (refine l_indexAddr ?_; (refine qaa ((OpW.indexAddr (i := 0) (Nat.succ_pos _) rfl rfl)) rfl ?_ ?_ ?_); rfl; rfl) | (refine qam ?_; (refine qaa (qag rfl) rfl ?_ ?_ ?_); rfl; rfl))
    refine qaD ?_
    refine SXl.storeOwn (O' := [RuleQ.o ⟨{ r0 with room := n } :: rs, some ⟨gt, 0, none⟩, qc⟩]) 0 rfl rfl rfl rfl (by simp [Rule.cells]) rfl rfl ?_
    repeat (first | refine qap ?_ | refine qak ?_ | refine qaf ?_ | refine qab ?_ | (refine qaF ?_; (refine qaa (qaq 0 rfl rfl rfl) rfl ?_ ?_ ?_); rfl; rfl) | (refine qaD ?_; first | ((first | refine qah 0 ?_ rfl rfl rfl rfl rfl rfl ?_ | refine qah 1 ?_ rfl rfl rfl rfl rfl rfl ?_ | refine qah 2 ?_ rfl rfl rfl rfl rfl rfl ?_); rfl; simp only [List.set_cons_zero, List.set_cons_succ]) | ((first | refine qad 0 ?_ rfl rfl rfl rfl rfl rfl rfl ?_ | refine qad 1 ?_ rfl rfl rfl rfl rfl rfl rfl ?_ | refine qad 2 ?_ rfl rfl rfl rfl rfl rfl rfl ?_); rfl; simp only [List.set_cons_zero, List.set_cons_succ]) | ((first | refine qac 0 ?_ rfl rfl rfl rfl rfl rfl rfl ?_ | refine qac 1 ?_ rfl rfl rfl rfl rfl rfl rfl ?_ | refine qac 2 ?_ rfl rfl rfl rfl rfl rfl rfl ?_); rfl; simp only [over, List.set_cons_zero, List.set_cons_succ])) | refine qav ?_ | refine qar ?_)
    refine qaN 1 rfl rfl rfl rfl (fun w' hl => ⟨⟨{ r0 with room := n } :: rs, some ⟨gt, 0, none⟩, qc⟩, rfl, by simp at hq ⊢; omega, hl.owns, hl.mod, hl.inv⟩)
  by_cases y1 : y = 1
  · repeat (first | refine qap ?_ | refine qak ?_ | refine qaf ?_ | refine qab ?_ | refine SX.block ?_ | refine qao rfl ?_ | refine qas rfl ?_ | (refine qai ?_; (refine qaa (qae rfl) rfl ?_ ?_ ?_); rfl; rfl) | (refine qaK ?_; (first | refine qaa (qaI rfl rfl (by omega)) rfl ?_ ?_ ?_ | refine qaa (qaH rfl rfl (by omega)) rfl ?_ ?_ ?_); rfl; rfl))
    refine SX.drawnG (ζ := Int) 4 (fun _ _ => [⟨g3, [.slice (some ⟨gt, 0, none⟩) (r0 :: rs).length qc], 26⟩, ⟨g2, [.slice none 0 0], 26⟩]) (fun _ _ => [RuleQ.o ⟨r0 :: rs, some ⟨gt, 0, none⟩, qc⟩]) (fun _ _ => []) [(3, fun n v => v = .int .i64 n)] 0 (by kernel_rfl) (by kernel_rfl) (by kernel_rfl) ⟨rfl, rfl, rfl⟩ ?_
    repeat (first | (refine SXg.v0 (fun dn x p ha hK => (qat 0 rfl rfl rfl)) rfl (fun _ => rfl) rfl (fun _ _ => ⟨rfl, rfl, rfl⟩) rfl ?_) | (refine SXg.v0 (fun dn x p ha hK => (qag rfl)) rfl (fun _ => rfl) rfl (fun _ _ => ⟨rfl, rfl, rfl⟩) rfl ?_) | (refine SXg.v0 (fun dn x p ha hK => (qaj rfl)) rfl (fun _ => rfl) rfl (fun _ _ => ⟨rfl, rfl, rfl⟩) rfl ?_))
    refine SXg.l rfl (fun _ => rfl) rfl (fun dn x p ha hk => ?_) ?_
    · refine SXl.draw (ξ := Int) (v := fun x => .int .i64 x) rfl rfl rfl (fun x => I64 x) (fun w hl => l02Int_d B gc w hl.inv) (fun n hn => ?_)
      exact qak (SQ.g n _ rfl (fun w hl => hl) ⟨fun _ => rfl, trivial⟩)
    refine SXg.tail (fun xq n hkq => ?_)
    have x3 : xq 3 = .int .i64 n := hkq.1 rfl
    simp only [x3]
    repeat (first | (refine l_indexAddr ?_; (refine qaa ((OpW.indexAddr (i := 0) (Nat.succ_pos _) rfl rfl)) rfl ?_ ?_ ?_); rfl; rfl) | (refine qam ?_; (refine qaa (qag rfl) rfl ?_ ?_ ?_); rfl; rfl))
    refine qaD ?_
    refine SXl.storeOwn (O' := [RuleQ.o ⟨{ r0 with wide := n } :: rs, some ⟨gt, 0, none⟩, qc⟩]) 0 rfl rfl rfl rfl (by simp [Rule.cells]) rfl rfl ?_
    repeat (first | refine qap ?_ | refine qak ?_ | refine qaf ?_ | refine qab ?_ | (refine qaF ?_; (refine qaa (qaq 0 rfl rfl rfl) rfl ?_ ?_ ?_); rfl; rfl) | (refine qaD ?_; first | ((first | refine qah 0 ?_ rfl rfl rfl rfl rfl rfl ?_ | refine qah 1 ?_ rfl rfl rfl rfl rfl rfl ?_ | refine qah 2 ?_ rfl rfl rfl rfl rfl rfl ?_); rfl; simp only [List.set_cons_zero, List.set_cons_succ]) | ((first | refine qad 0 ?_ rfl rfl rfl rfl rfl rfl rfl ?_ | refine qad 1 ?_ rfl rfl rfl rfl rfl rfl rfl ?_ | refine qad 2 ?_ rfl rfl rfl rfl rfl rfl rfl ?_); rfl; simp only [List.set_cons_zero, List.set_cons_succ]) | ((first | refine qac 0 ?_ rfl rfl rfl rfl rfl rfl rfl ?_ | refine qac 1 ?_ rfl rfl rfl rfl rfl rfl rfl ?_ | refine qac 2 ?_ rfl rfl rfl rfl rfl rfl rfl ?_); rfl; simp only [over, List.set_cons_zero, List.set_cons_succ])) | refine qav ?_ | refine qar ?_)
    refine qaN 1 rfl rfl rfl rfl (fun w' hl => ⟨⟨{ r0 with wide := n } :: rs, some ⟨gt, 0, none⟩, qc⟩, rfl, by simp at hq ⊢; omega, hl.owns, hl.mod, hl.inv⟩)
  by_cases y2 : y = 2
  · repeat (first | refine qap ?_ | refine qak ?_ | refine qaf ?_ | refine qab ?_ | refine SX.block ?_ | refine qao rfl ?_ | refine qas rfl ?_ | (refine qai ?_; (refine qaa (qae rfl) rfl ?_ ?_ ?_); rfl; rfl) | (refine qaK ?_; (first | refine qaa (qaI rfl rfl (by omega)) rfl ?_ ?_ ?_ | refine qaa (qaH rfl rfl (by omega)) rfl ?_ ?_ ?_); rfl; rfl))
    refine qaG ?_
    refine SXl.lit0R rfl rfl (fun _ h => h) (fun g4 => ?_)
    repeat (first | refine qap ?_ | refine qak ?_ | refine qaf ?_ | refine qab ?_ | (refine qaF ?_; (refine qaa (qaq 0 rfl rfl rfl) rfl ?_ ?_ ?_); rfl; rfl) | (refine qam ?_; (refine qaa (qag rfl) rfl ?_ ?_ ?_); rfl; rfl) | (refine qaD ?_; first | ((first | refine qah 0 ?_ rfl rfl rfl rfl rfl rfl ?_ | refine qah 1 ?_ rfl rfl rfl rfl rfl rfl ?_ | refine qah 2 ?_ rfl rfl rfl rfl rfl rfl ?_); rfl; simp only [List.set_cons_zero, List.set_cons_succ]) | ((first | refine qad 0 ?_ rfl rfl rfl rfl rfl rfl rfl ?_ | refine qad 1 ?_ rfl rfl rfl rfl rfl rfl rfl ?_ | refine qad 2 ?_ rfl rfl rfl rfl rfl rfl rfl ?_); rfl; simp only [List.set_cons_zero, List.set_cons_succ]) | ((first | refine qac 0 ?_ rfl rfl rfl rfl rfl rfl rfl ?_ | refine qac 1 ?_ rfl rfl rfl rfl rfl rfl rfl ?_ | refine qac 2 ?_ rfl rfl rfl rfl rfl rfl rfl ?_); rfl; simp only [over, List.set_cons_zero, List.set_cons_succ])) | refine qav ?_ | refine qar ?_)
    refine qaN 1 rfl rfl rfl rfl (fun w' hl => ⟨⟨[], some ⟨g4, 0, none⟩, 0⟩, rfl, by simp, Owns.left (os := [_]) hl.owns, hl.mod, hl.inv⟩)
  by_cases y3 : y = 3
  rotate_left
  · repeat (first | refine qap ?_ | refine qak ?_ | refine qaf ?_ | refine qab ?_ | refine SX.block ?_ | refine qaE ?_ | refine qas rfl ?_ | (refine qaF ?_; (refine qaa (qaq 0 rfl rfl rfl) rfl ?_ ?_ ?_); rfl; rfl) | (refine qai ?_; (refine qaa (qae rfl) rfl ?_ ?_ ?_); rfl; rfl) | (refine qaK ?_; (refine qaa (qaH rfl rfl (by omega)) rfl ?_ ?_ ?_); rfl; rfl) | (refine qaD ?_; first | ((first | refine qah 0 ?_ rfl rfl rfl rfl rfl rfl ?_ | refine qah 1 ?_ rfl rfl rfl rfl rfl rfl ?_ | refine qah 2 ?_ rfl rfl rfl rfl rfl rfl ?_); rfl; simp only [List.set_cons_zero, List.set_cons_succ]) | ((first | refine qad 0 ?_ rfl rfl rfl rfl rfl rfl rfl ?_ | refine qad 1 ?_ rfl rfl rfl rfl rfl rfl rfl ?_ | refine qad 2 ?_ rfl rfl rfl rfl rfl rfl rfl ?_); rfl; simp only [List.set_cons_zero, List.set_cons_succ]) | ((first | refine qac 0 ?_ rfl rfl rfl rfl rfl rfl rfl ?_ | refine qac 1 ?_ rfl rfl rfl rfl rfl rfl rfl ?_ | refine qac 2 ?_ rfl rfl rfl rfl rfl rfl rfl ?_); rfl; simp only [over, List.set_cons_zero, List.set_cons_succ])) | refine qav ?_ | refine qar ?_)
    refine qaN 1 rfl rfl rfl rfl (fun w' hl => ⟨⟨r0 :: rs, some ⟨gt, 0, none⟩, qc⟩, rfl, (show (r0 :: rs).length ≤ 7 by omega), hl.owns, hl.mod, hl.inv⟩)
  repeat (first | refine qap ?_ | refine qak ?_ | refine qaf ?_ | refine qab ?_ | refine SX.block ?_ | refine qao rfl ?_ | refine qas rfl ?_ | (refine qai ?_; (refine qaa (qae rfl) rfl ?_ ?_ ?_); rfl; rfl) | (refine qaK ?_; (first | refine qaa (qaI rfl rfl (by omega)) rfl ?_ ?_ ?_ | refine qaa (qaH rfl rfl (by omega)) rfl ?_ ?_ ?_); rfl; rfl))
  refine SX.loop3 (fun (q : RuleQ) (_ _ : Unit) => q.l.length ≤ 7) (fun q _ _ => 7 - q.l.length) (fun q _ _ => [⟨g3, [.slice q.a q.l.length q.c], 26⟩, ⟨g2, [.slice none 0 0], 26⟩]) (fun q _ _ => [q.o]) (fun _ _ _ => []) (fun _ _ _ => [(0, .pointer (some ⟨gc, 0, none⟩)), (2, .pointer (some ⟨g2, 0, none⟩)), (3, .pointer (some ⟨g3, 0, none⟩))]) ⟨r0 :: rs, some ⟨gt, 0, none⟩, qc⟩ () () (by simp only; omega) ?_ (fun w hl => hl) ?_
  · (repeat (first | exact subF_nil _ | (refine subF_cons rfl ?_) | (refine subF_consv rfl (by rfl) ?_)))
  rintro q _ _ hn
  repeat (refine qap ?_)
  refine SX.drawnG (ζ := Int) 7 (fun _ _ => [⟨g3, [.slice q.a q.l.length q.c], 26⟩, ⟨g2, [.slice none 0 0], 26⟩]) (fun _ _ => [q.o]) (fun _ _ => []) [(4, fun n v => v = .int .i64 n ∧ 0 ≤ n ∧ n < 2)] 0 (by kernel_rfl) (by kernel_rfl) (by kernel_rfl) ⟨rfl, rfl, rfl⟩ ?_
  repeat (first | (refine SXg.v0 (fun dn x p ha hK => (qat 0 rfl rfl rfl)) rfl (fun _ => rfl) rfl (fun _ _ => ⟨rfl, rfl, rfl⟩) rfl ?_) | (refine SXg.v0 (fun dn x p ha hK => (qag rfl)) rfl (fun _ => rfl) rfl (fun _ _ => ⟨rfl, rfl, rfl⟩) rfl ?_) | (refine SXg.v0 (fun dn x p ha hK => (qaj rfl)) rfl (fun _ => rfl) rfl (fun _ _ => ⟨rfl, rfl, rfl⟩) rfl ?_) | (refine SXg.v0 (fun dn x p ha hK => (OpW.len rfl)) rfl (fun _ => rfl) rfl (fun _ _ => ⟨rfl, rfl, rfl⟩) rfl ?_))
  refine SXg.l rfl (fun _ => rfl) rfl (fun dn x p ha hk => ?_) ?_
  · refine SXl.draw (ξ := Int) (v := fun x => .int .i64 x) rfl rfl rfl (fun x => 0 ≤ x ∧ x < 2) (fun w hl => below_d B gc w hl.inv 2 (by decide) (by decide)) (fun n hn => ?_)
    exact qak (SQ.g n _ rfl (fun w hl => hl) ⟨fun _ => ⟨rfl, hn⟩, trivial⟩)
  refine SXg.v [4] (fun x => .int .i64 (6 + intOf (x 4))) (by kernel_rfl) (fun x y h => by rw [h 4 (by simp)]) (fun dn x p ha hk => ?_) rfl (fun _ => rfl) rfl (fun _ _ => ⟨rfl, rfl, rfl⟩) rfl ?_
  · obtain ⟨x4, h4⟩ : x 4 = .int .i64 p ∧ 0 ≤ p ∧ p < 2 := hk.1 (ha.done 4 (by kernel_rfl))
    simp only [x4, intOf]
    exact OpW.addi rfl rfl (by omega) (by omega)
  refine SXg.v [4] (fun x => .bool (decide ((q.l.length : Int) < 6 + intOf (x 4)))) (by kernel_rfl) (fun x y h => by rw [h 4 (by simp)]) (fun dn x p ha hk => OpW.lss rfl rfl) rfl (fun _ => rfl) rfl (fun _ _ => ⟨rfl, rfl, rfl⟩) rfl ?_
  refine SXg.nilW (fun xq n hkq => ?_)
  obtain ⟨x4, h4⟩ : xq 4 = .int .i64 n ∧ 0 ≤ n ∧ n < 2 := hkq.1 rfl
  simp only [x4, intOf]
  by_cases hlt : (q.l.length : Int) < 6 + n
  · rw [decide_eq_true hlt]
    repeat (first | refine qaf ?_ | refine qab ?_ | refine SX.block ?_ | refine qaE ?_ | refine qao rfl ?_ | (refine qaO ?_; (refine qaa ((qaz (vals := []) (cells := (Rule.mk 0 0 0).cells) rfl (by kernel_rfl))) rfl ?_ ?_ ?_); rfl; rfl) | (refine qaF ?_; (refine qaa (qat 0 rfl rfl rfl) rfl ?_ ?_ ?_); rfl; rfl) | (refine qam ?_; (refine qaa (qag rfl) rfl ?_ ?_ ?_); rfl; rfl))
    refine qaG ?_
    refine SXl.litRow1 (sz := 3) (r := (Rule.mk 0 0 0).cells) rfl rfl rfl rfl rfl (by decide) (by decide) (fun g5 => ?_)
    repeat (first | refine qak ?_ | (refine qam ?_; (refine qaa (qag rfl) rfl ?_ ?_ ?_); rfl; rfl) | (refine qaD ?_; first | ((first | refine qah 0 ?_ rfl rfl rfl rfl rfl rfl ?_ | refine qah 1 ?_ rfl rfl rfl rfl rfl rfl ?_ | refine qah 2 ?_ rfl rfl rfl rfl rfl rfl ?_); rfl; simp only [List.set_cons_zero, List.set_cons_succ]) | ((first | refine qad 0 ?_ rfl rfl rfl rfl rfl rfl rfl ?_ | refine qad 1 ?_ rfl rfl rfl rfl rfl rfl rfl ?_ | refine qad 2 ?_ rfl rfl rfl rfl rfl rfl rfl ?_); rfl; simp only [List.set_cons_zero, List.set_cons_succ]) | ((first | refine qac 0 ?_ rfl rfl rfl rfl rfl rfl rfl ?_ | refine qac 1 ?_ rfl rfl rfl rfl rfl rfl rfl ?_ | refine qac 2 ?_ rfl rfl rfl rfl rfl rfl rfl ?_); rfl; simp only [over, List.set_cons_zero, List.set_cons_succ])) | (refine l_append ?_; first | (refine SXl.append 0 0 rfl rfl rfl rfl rfl rfl rfl rfl (by omega) (by omega) (fun a c => ?_); simp only [List.set_cons_zero, List.set_cons_succ]) | (refine SXl.append 1 0 rfl rfl rfl rfl rfl rfl rfl rfl (by omega) (by omega) (fun a c => ?_); simp only [List.set_cons_zero, List.set_cons_succ])) | refine qar ?_)
    have hO : (⟨.slice a (q.l.length + 1) c, 70, 3, q.l.length + 1, (q.l.map Rule.cells).flatten ++ (Rule.mk 0 0 0).cells⟩ : Own) = RuleQ.o ⟨q.l ++ [⟨0, 0, 0⟩], a, c⟩ := by
      unfold RuleQ.o
      rw [List.length_append, List.map_append, List.flatten_append]
      simp
    refine SQ.round3 ⟨q.l ++ [⟨0, 0, 0⟩], a, c⟩ () () (by simp; omega) (by simp; omega) ?_ (fun w hl => ?_)
    · (repeat (first | exact subF_nil _ | (refine subF_cons rfl ?_) | (refine subF_consv rfl (by rfl) ?_)))
    · have h2 := hl.drop1
      rw [← hO, List.length_append]
      exact h2
  · rw [decide_eq_false hlt]
    repeat (first | refine qap ?_ | refine qak ?_ | refine qaf ?_ | refine qab ?_ | refine qas rfl ?_ | (refine qaF ?_; (refine qaa (qaq 0 rfl rfl rfl) rfl ?_ ?_ ?_); rfl; rfl) | (refine qaD ?_; first | ((first | refine qah 0 ?_ rfl rfl rfl rfl rfl rfl ?_ | refine qah 1 ?_ rfl rfl rfl rfl rfl rfl ?_ | refine qah 2 ?_ rfl rfl rfl rfl rfl rfl ?_); rfl; simp only [List.set_cons_zero, List.set_cons_succ]) | ((first | refine qad 0 ?_ rfl rfl rfl rfl rfl rfl rfl ?_ | refine qad 1 ?_ rfl rfl rfl rfl rfl rfl rfl ?_ | refine qad 2 ?_ rfl rfl rfl rfl rfl rfl rfl ?_); rfl; simp only [List.set_cons_zero, List.set_cons_succ]) | ((first | refine qac 0 ?_ rfl rfl rfl rfl rfl rfl rfl ?_ | refine qac 1 ?_ rfl rfl rfl rfl rfl rfl rfl ?_ | refine qac 2 ?_ rfl rfl rfl rfl rfl rfl rfl ?_); rfl; simp only [over, List.set_cons_zero, List.set_cons_succ])) | refine qav ?_ | refine SX.exit ?_ | refine SQ.thenExit ?_ | refine qar ?_ | refine SQ.blockExit ?_)
    refine qaN 1 rfl rfl rfl rfl (fun w' hl => ⟨q, rfl, by omega, hl.owns, hl.mod, hl.inv⟩)
end Go.Proofs.YtkkjjhooamlljaaGreatDoor
namespace Go.Proofs.YtkkjjhooamlljaaGreatDoor

def intTexts : List (List UInt8) := [[100, 105, 114], [119, 114, 97, 112], [106, 117, 115, 116, 105, 102, 121], [105, 116, 101, 109, 115], [115, 101, 108, 102], [99, 111, 110, 116, 101, 110, 116], [97, 112, 97, 114, 116], [104, 105, 100, 100, 101, 110], [111, 114, 100, 101, 114], [103, 114, 111, 119], [115, 104, 114, 105, 110, 107], [114, 97, 116, 105, 111], [114, 111, 119, 45, 103, 97, 112], [99, 111, 108, 45, 103, 97, 112], [112, 97, 100, 45, 108, 101, 102, 116], [112, 97, 100, 45, 116, 111, 112], [112, 97, 100, 45, 114, 105, 103, 104, 116], [112, 97, 100, 45, 98, 111, 116, 116, 111, 109], [98, 111, 114, 100, 101, 114, 45, 108, 101, 102, 116], [98, 111, 114, 100, 101, 114, 45, 116, 111, 112], [98, 111, 114, 100, 101, 114, 45, 114, 105, 103, 104, 116], [98, 111, 114, 100, 101, 114, 45, 98, 111, 116, 116, 111, 109]]
def valueTexts : List (List UInt8) := [[98, 97, 115, 105, 115], [119, 105, 100, 116, 104], [104, 101, 105, 103, 104, 116], [109, 105, 110, 45, 119, 105, 100, 116, 104], [109, 105, 110, 45, 104, 101, 105, 103, 104, 116], [109, 97, 120, 45, 119, 105, 100, 116, 104], [109, 97, 120, 45, 104, 101, 105, 103, 104, 116], [109, 97, 114, 103, 105, 110, 45, 108, 101, 102, 116], [109, 97, 114, 103, 105, 110, 45, 116, 111, 112], [109, 97, 114, 103, 105, 110, 45, 114, 105, 103, 104, 116], [109, 97, 114, 103, 105, 110, 45, 98, 111, 116, 116, 111, 109], [109, 97, 114, 103, 105, 110, 45, 115, 116, 97, 114, 116], [109, 97, 114, 103, 105, 110, 45, 101, 110, 100], [105, 110, 115, 101, 116, 45, 108, 101, 102, 116], [105, 110, 115, 101, 116, 45, 116, 111, 112], [105, 110, 115, 101, 116, 45, 114, 105, 103, 104, 116], [105, 110, 115, 101, 116, 45, 98, 111, 116, 116, 111, 109], [105, 110, 115, 101, 116, 45, 115, 116, 97, 114, 116], [105, 110, 115, 101, 116, 45, 101, 110, 100]]
def keyTexts : List (List UInt8) := intTexts ++ valueTexts
end Go.Proofs.YtkkjjhooamlljaaGreatDoor
namespace Go.Proofs.YtkkjjhooamlljaaGreatDoor

def bitOf (b : Bool) : Int := if b then 1 else 0
def ioffs : List Nat := [0, 1, 2, 3, 4, 5, 6, 7, 8, 9, 10, 25, 58, 59, 50, 51, 52, 53, 54, 55, 56, 57]
def voffs : List Nat := [11, 13, 15, 17, 19, 21, 23, 26, 28, 30, 32, 34, 36, 38, 40, 42, 44, 46, 48]
def styleInts (s : Style) : List Int := [s.dir, s.wrap, s.justify, s.items, s.self, s.content, bitOf s.apart, bitOf s.hidden, s.order, s.grow, s.shrink, s.ratio, s.rowGap, s.colGap, s.pad.left, s.pad.top, s.pad.right, s.pad.bottom, s.border.left, s.border.top, s.border.right, s.border.bottom]
def styleVals (s : Style) : List Val := [s.basis, s.width, s.height, s.minWidth, s.minHeight, s.maxWidth, s.maxHeight, s.margin.left, s.margin.top, s.margin.right, s.margin.bottom, s.margin.start, s.margin.stop, s.inset.left, s.inset.top, s.inset.right, s.inset.bottom, s.inset.start, s.inset.stop]
def idxOf (l : List (List UInt8)) (k : List UInt8) : Option Nat := l.findIdx? (fun x => decide (x = k))
def keyOf (s : Style) (k : List UInt8) : Val × Bool :=
  match idxOf intTexts k with
  | some i => (⟨1, (styleInts s).getD i 0⟩, true)
  | none => match idxOf valueTexts k with
    | some i => ((styleVals s).getD i ⟨0, 0⟩, true)
    | none => (⟨0, 0⟩, false)
def iptr (k : List UInt8) : Nat × Bool :=
  match idxOf intTexts k with
  | some i => if i = 6 ∨ i = 7 then (8, false) else (ioffs.getD i 0, true)
  | none => (8, false)
def vptr (k : List UInt8) : Nat × Bool :=
  match idxOf valueTexts k with
  | some i => (voffs.getD i 0, true)
  | none => (11, false)
theorem idxOf_lt {l : List (List UInt8)} {k : List UInt8} {i : Nat} (h : idxOf l k = some i) : i < l.length := by
  unfold idxOf at h
  rw [List.findIdx?_eq_some_iff_findIdx_eq] at h
  exact h.1
theorem idxOf_at {l : List (List UInt8)} {k : List UInt8} {i : Nat} (h : idxOf l k = some i) : l[i]? = some k := by
  unfold idxOf at h
  rw [List.findIdx?_eq_some_iff_getElem] at h
  obtain ⟨h1, h2, _⟩ := h
  rw [List.getElem?_eq_getElem h1]
  simpa using h2
theorem int_at (s : Style) {i : Nat} (h : i < 22) (h6 : i ≠ 6) (h7 : i ≠ 7) : s.cells[ioffs.getD i 0]? = some (.int .i64 ((styleInts s).getD i 0)) := by
  obtain (rfl|rfl|rfl|rfl|rfl|rfl|rfl|rfl|rfl|rfl|rfl|rfl|rfl|rfl|rfl|rfl|rfl|rfl|rfl|rfl|rfl|rfl) : i = 0 ∨ i = 1 ∨ i = 2 ∨ i = 3 ∨ i = 4 ∨ i = 5 ∨ i = 6 ∨ i = 7 ∨ i = 8 ∨ i = 9 ∨ i = 10 ∨ i = 11 ∨ i = 12 ∨ i = 13 ∨ i = 14 ∨ i = 15 ∨ i = 16 ∨ i = 17 ∨ i = 18 ∨ i = 19 ∨ i = 20 ∨ i = 21 := by omega
  all_goals first | contradiction | rfl
theorem val_at (s : Style) {i : Nat} (h : i < 19) : (s.cells.drop (voffs.getD i 0)).take 2 = ((styleVals s).getD i ⟨0, 0⟩).cells ∧ voffs.getD i 0 + 2 ≤ 60 := by
  obtain (rfl|rfl|rfl|rfl|rfl|rfl|rfl|rfl|rfl|rfl|rfl|rfl|rfl|rfl|rfl|rfl|rfl|rfl|rfl) : i = 0 ∨ i = 1 ∨ i = 2 ∨ i = 3 ∨ i = 4 ∨ i = 5 ∨ i = 6 ∨ i = 7 ∨ i = 8 ∨ i = 9 ∨ i = 10 ∨ i = 11 ∨ i = 12 ∨ i = 13 ∨ i = 14 ∨ i = 15 ∨ i = 16 ∨ i = 17 ∨ i = 18 := by omega
  all_goals exact ⟨rfl, by decide⟩
end Go.Proofs.YtkkjjhooamlljaaGreatDoor
namespace Go.Proofs.YtkkjjhooamlljaaGreatDoor
open Go.RowKit

/-- A text's one cell. -/
def tcell (l : List UInt8) : List Value := [.string ⟨l.toArray⟩]
theorem info_string : (Tryz.prog.info? 9).map (fun i => (i.zero, i.size, i.bytes)) = some (some (.string ⟨#[]⟩), 1, 16) := by kernel_rfl
abbrev TextSlice (R : Nat → Prop) (w : World) (a : Option Addr) (l : List (List UInt8)) : Prop := SliceAt (Flat tcell) 1 R w a l
theorem TextSlice.get {R : Nat → Prop} {w : World} {a : Option Addr} {l : List (List UInt8)} (h : TextSlice R w a l) {k : Nat} (hk : k < l.length) :
    ∃ b o x, a = some ⟨b, o, none⟩ ∧ R b ∧ b < w.heap.size ∧ Hid (l[k]? = some x) ∧ w.cell? ⟨b, o + k, none⟩ = some (.string ⟨x.toArray⟩) := by
  obtain ⟨b, o, x, r, rfl, hR, hb, hx, hr, _, hc⟩ := SliceAt.get h hk
  obtain rfl : r = tcell x := hr
  have := hc 0 _ rfl
  rw [Nat.mul_one, Nat.add_zero] at this
  exact ⟨b, o, x, rfl, hR, hb, hx, this⟩

end Go.Proofs.YtkkjjhooamlljaaGreatDoor
namespace Go.Proofs.YtkkjjhooamlljaaGreatDoor
open Go.RowKit

/-- Where a key stands, or -1. -/
def keyI (l : List (List UInt8)) (k : List UInt8) : Int := match idxOf l k with
  | some i => (i : Nat)
  | none => -1
theorem idxOf_first {l : List (List UInt8)} {k : List UInt8} {i : Nat} (h : ∀ j x, j < i → l[j]? = some x → x ≠ k) (hi : l[i]? = some k) : idxOf l k = some i := by
  unfold idxOf
  rw [List.findIdx?_eq_some_iff_getElem]
  obtain ⟨h1, h2⟩ := List.getElem?_eq_some_iff.1 hi
  exact ⟨h1, by simpa using h2, fun j hj => by simpa using h j _ hj (List.getElem?_eq_getElem (by omega))⟩
theorem idxOf_none {l : List (List UInt8)} {k : List UInt8} (h : ∀ j x, j < l.length → l[j]? = some x → x ≠ k) : idxOf l k = none := by
  unfold idxOf
  rw [List.findIdx?_eq_none_iff]
  intro x hx
  obtain ⟨j, hj⟩ := List.mem_iff_getElem?.1 hx
  simpa using h j x (List.getElem?_eq_some_iff.1 hj).1 hj
theorem keyI_some {l : List (List UInt8)} {k : List UInt8} {i : Nat} (h : idxOf l k = some i) : keyI l k = (i : Nat) := by unfold keyI; rw [h]
theorem keyI_none {l : List (List UInt8)} {k : List UInt8} (h : idxOf l k = none) : keyI l k = -1 := by unfold keyI; rw [h]
theorem ne_succ {l : List (List UInt8)} {k x : List UInt8} {i : Nat} (h : ∀ j x, j < i → l[j]? = some x → x ≠ k) (hx : l[i]? = some x) (hn : x ≠ k) : ∀ j x, j < i + 1 → l[j]? = some x → x ≠ k := fun j y hj hy => by
  by_cases e : j = i
  · subst e; rw [hx] at hy; rw [← Option.some.inj hy]; exact hn
  · exact h j y (by omega) hy

set_option maxRecDepth 100000 in
set_option maxHeartbeats 4000000 in
theorem keyAt_any (l : List (List UInt8)) (k : List UInt8) (a : Option Addr) (c : Nat) (R : Nat → Prop) (w : World) (hlen : l.length ≤ 1048576) (h : TextSlice R w a l) :
    Calls Tryz.prog 41 #[.slice a l.length c, .string ⟨k.toArray⟩] w fun e w' => e = .returned (.int .i64 (keyI l k)) ∧ Mod (fun _ => False) w w' := by
  refine calls_sx Tryz.func41 rfl rfl (fun a h1 h2 h3 => ((Fr.nil h1 h2).arg (h3 1 _ rfl)).arg (h3 0 _ rfl)) ?_
  repeat (first | refine qap ?_ | refine qak ?_ | refine qaf ?_ | refine qab ?_ | refine SX.block ?_ | (refine qau ?_; (refine qaa (qaj rfl) rfl ?_ ?_ ?_); rfl; rfl) | (refine qai ?_; (refine qaa (qae rfl) rfl ?_ ?_ ?_); rfl; rfl) | (refine l_len ?_; (refine qaa (OpW.len rfl) rfl ?_ ?_ ?_); rfl; rfl))
  refine SX.loopi (fun i : Nat => i ≤ l.length ∧ ∀ j x, j < i → l[j]? = some x → x ≠ k) (fun i => l.length - i) (fun _ => []) (fun _ => []) (fun _ => []) (fun i => [(1, .string ⟨k.toArray⟩), (7, .slice a l.length c), (8, .int .i64 l.length), (9, .int .i64 i)]) 0 ⟨Nat.zero_le _, fun i x h => absurd h (Nat.not_lt_zero _)⟩ ?_ (fun _ hl => hl) ?_
  · (repeat (first | exact subF_nil _ | (refine subF_cons rfl ?_) | (refine subF_consv rfl (by rfl) ?_)))
  · rintro i ⟨hk, hs⟩
    by_cases hlt : i < l.length
    · obtain ⟨b1, o1, x, rfl, _, _, hxk, hc1⟩ := TextSlice.get h hlt
      by_cases e : x = k
      · subst e
        repeat (first | refine qap ?_ | refine qak ?_ | refine qaf ?_ | refine qab ?_ | refine SX.block ?_ | refine qaE ?_ | refine qao rfl ?_ | (refine qaF ?_; (refine qaa (OpW.loadOld rfl (by assumption) (fun h => h)) rfl ?_ ?_ ?_); rfl; rfl) | (refine qau ?_; (refine qaa (qaj rfl) rfl ?_ ?_ ?_); rfl; rfl) | (refine qai ?_; (refine qaa (qae rfl) rfl ?_ ?_ ?_); rfl; rfl) | (refine qaK ?_; (refine qaa (qaB rfl rfl (by first | assumption | with_reducible rfl | decide)) rfl ?_ ?_ ?_); rfl; rfl) | (refine l_lss ?_; (refine qaa (OpW.lssT rfl rfl (by omega)) rfl ?_ ?_ ?_); rfl; rfl) | (refine l_indexAddr ?_; (refine qaa (qaM (by omega) rfl rfl) rfl ?_ ?_ ?_); rfl; rfl) | refine qav ?_ | refine qan ?_ | refine qaw ?_)
        refine qaC rfl rfl (fun w' hl => ⟨by rw [keyI_some (idxOf_first hs hxk.out)], hl.mod⟩)
      · repeat (first | refine qap ?_ | refine qak ?_ | refine qaf ?_ | refine qab ?_ | refine SX.block ?_ | refine qaE ?_ | refine qao rfl ?_ | refine qas rfl ?_ | (refine qaF ?_; (refine qaa (OpW.loadOld rfl (by assumption) (fun h => h)) rfl ?_ ?_ ?_); rfl; rfl) | (refine qau ?_; (refine qaa (qaj rfl) rfl ?_ ?_ ?_); rfl; rfl) | (refine qai ?_; (refine qaa (qae rfl) rfl ?_ ?_ ?_); rfl; rfl) | (refine l_add ?_; (refine qaa (OpW.succ rfl rfl (by omega)) rfl ?_ ?_ ?_); rfl; rfl) | (refine qaK ?_; (refine qaa (qay rfl rfl (by first | assumption | with_reducible rfl | decide)) rfl ?_ ?_ ?_); rfl; rfl) | (refine l_lss ?_; (refine qaa (OpW.lssT rfl rfl (by omega)) rfl ?_ ?_ ?_); rfl; rfl) | (refine l_indexAddr ?_; (refine qaa (qaM (by omega) rfl rfl) rfl ?_ ?_ ?_); rfl; rfl) | refine qar ?_)
        refine SQ.roundi (i + 1) ⟨by omega, ne_succ hs hxk.out e⟩ (by omega) ?_ (fun _ hl => hl)
        (repeat (first | exact subF_nil _ | (refine subF_cons rfl ?_) | (refine subF_consv rfl (by rfl) ?_)))
    · repeat (first | refine qap ?_ | refine qak ?_ | refine qaf ?_ | refine qab ?_ | refine qas rfl ?_ | (refine qai ?_; (refine qaa (qae rfl) rfl ?_ ?_ ?_); rfl; rfl) | (refine l_lss ?_; (refine qaa (OpW.lssF rfl rfl (by omega)) rfl ?_ ?_ ?_); rfl; rfl) | refine qav ?_ | refine SX.exit ?_ | refine SQ.thenExit ?_ | refine SQ.blockExit ?_)
      refine qaC rfl rfl (fun w' hl => ⟨by rw [keyI_none (idxOf_none fun j x hj hx => hs j x (by omega) hx)], hl.mod⟩)

end Go.Proofs.YtkkjjhooamlljaaGreatDoor
