/-
  PROVED: contracts of functions and words on memory, several texts put together: what each says stands at its theorems. Conditions: as told there.
-/
import Derived.Test.YthffgbhphjkdeaaDoorMBa
import Derived.Test.YthffgbhphjkdeaaDoorProg
import Derived.Test.YthffgbhphjkdeaaDoorChecked
import Derived.Deep.QuietTactic
import Derived.BigQuiet
import Derived.Outline
import Derived.WalkLawsBesides
import Derived.Deep.RegionHeld3
import Derived.StillTailTactics
namespace Go.Proofs.YthffgbhphjkdeaaDoor

instance : TOne Tryd.prog 2 := ⟨⟨_, Tryd.underlying2, rfl⟩, by kernel_rfl⟩
instance : TEl Tryd.prog 2 1 8 (.int .i64 0) := ⟨by kernel_rfl, rfl, by decide⟩
instance : TZero Tryd.prog 2 [.int .i64 0] := ⟨.int .i64 0, by kernel_rfl, rfl⟩
instance : TOne Tryd.prog 3 := ⟨⟨_, Tryd.underlying3, rfl⟩, by kernel_rfl⟩
instance : TEl Tryd.prog 3 1 8 (.int .i64 0) := ⟨by kernel_rfl, rfl, by decide⟩
instance : TZero Tryd.prog 3 [.int .i64 0] := ⟨.int .i64 0, by kernel_rfl, rfl⟩
instance : TOne Tryd.prog 4 := ⟨⟨_, Tryd.underlying4, rfl⟩, by kernel_rfl⟩
instance : TBool Tryd.prog 4 := ⟨Tryd.underlying4⟩
instance : TEl Tryd.prog 4 1 1 (.bool false) := ⟨by kernel_rfl, rfl, by decide⟩
instance : TZero Tryd.prog 4 [.bool false] := ⟨.bool false, by kernel_rfl, rfl⟩
instance : TOne Tryd.prog 5 := ⟨⟨_, Tryd.underlying5, rfl⟩, by kernel_rfl⟩
instance : TEl Tryd.prog 5 1 1 (.int .u8 0) := ⟨by kernel_rfl, rfl, by decide⟩
instance : TZero Tryd.prog 5 [.int .u8 0] := ⟨.int .u8 0, by kernel_rfl, rfl⟩
instance : TOne Tryd.prog 6 := ⟨⟨_, Tryd.underlying6, rfl⟩, by kernel_rfl⟩
instance : TEl Tryd.prog 6 1 1 (.int .u8 0) := ⟨by kernel_rfl, rfl, by decide⟩
instance : TZero Tryd.prog 6 [.int .u8 0] := ⟨.int .u8 0, by kernel_rfl, rfl⟩
instance : TRow Tryd.prog 7 4 := ⟨⟨_, Tryd.underlying7, rfl⟩, by kernel_rfl⟩
instance : TFld Tryd.prog 7 0 0 := ⟨_, _, 0, Tryd.underlying7, rfl, rfl, by kernel_rfl⟩
instance : TFld Tryd.prog 7 1 1 := ⟨_, _, 0, Tryd.underlying7, rfl, rfl, by kernel_rfl⟩
instance : TFld Tryd.prog 7 2 2 := ⟨_, _, 0, Tryd.underlying7, rfl, rfl, by kernel_rfl⟩
instance : TFld Tryd.prog 7 3 3 := ⟨_, _, 0, Tryd.underlying7, rfl, rfl, by kernel_rfl⟩
instance : TEl Tryd.prog 7 4 24 (.agg #[.int .i64 0, .int .i64 0, .bool false, .int .u8 0]) := ⟨by kernel_rfl, rfl, by decide⟩
instance : TZero Tryd.prog 7 [.int .i64 0, .int .i64 0, .bool false, .int .u8 0] := ⟨.agg #[.int .i64 0, .int .i64 0, .bool false, .int .u8 0], by kernel_rfl, rfl⟩
instance : TRow Tryd.prog 8 4 := ⟨⟨_, Tryd.underlying8, rfl⟩, by kernel_rfl⟩
instance : TFld Tryd.prog 8 0 0 := ⟨_, _, 0, Tryd.underlying8, rfl, rfl, by kernel_rfl⟩
instance : TFld Tryd.prog 8 1 1 := ⟨_, _, 0, Tryd.underlying8, rfl, rfl, by kernel_rfl⟩
instance : TFld Tryd.prog 8 2 2 := ⟨_, _, 0, Tryd.underlying8, rfl, rfl, by kernel_rfl⟩
instance : TFld Tryd.prog 8 3 3 := ⟨_, _, 0, Tryd.underlying8, rfl, rfl, by kernel_rfl⟩
instance : TEl Tryd.prog 8 4 24 (.agg #[.int .i64 0, .int .i64 0, .bool false, .int .u8 0]) := ⟨by kernel_rfl, rfl, by decide⟩
instance : TZero Tryd.prog 8 [.int .i64 0, .int .i64 0, .bool false, .int .u8 0] := ⟨.agg #[.int .i64 0, .int .i64 0, .bool false, .int .u8 0], by kernel_rfl, rfl⟩
instance : TOne Tryd.prog 9 := ⟨⟨_, Tryd.underlying9, rfl⟩, by kernel_rfl⟩
instance : TStr Tryd.prog 9 := ⟨Tryd.underlying9⟩
instance : TEl Tryd.prog 9 1 16 (.string ⟨#[]⟩) := ⟨by kernel_rfl, rfl, by decide⟩
instance : TZero Tryd.prog 9 [.string ⟨#[]⟩] := ⟨.string ⟨#[]⟩, by kernel_rfl, rfl⟩
instance : TOne Tryd.prog 10 := ⟨⟨_, Tryd.underlying10, rfl⟩, by kernel_rfl⟩
instance : TStr Tryd.prog 10 := ⟨Tryd.underlying10⟩
instance : TEl Tryd.prog 10 1 16 (.string ⟨#[]⟩) := ⟨by kernel_rfl, rfl, by decide⟩
instance : TZero Tryd.prog 10 [.string ⟨#[]⟩] := ⟨.string ⟨#[]⟩, by kernel_rfl, rfl⟩
instance : TOne Tryd.prog 11 := ⟨⟨_, Tryd.underlying11, rfl⟩, by kernel_rfl⟩
instance : TStr Tryd.prog 11 := ⟨Tryd.underlying11⟩
instance : TEl Tryd.prog 11 1 16 (.string ⟨#[]⟩) := ⟨by kernel_rfl, rfl, by decide⟩
instance : TZero Tryd.prog 11 [.string ⟨#[]⟩] := ⟨.string ⟨#[]⟩, by kernel_rfl, rfl⟩
instance : TOne Tryd.prog 12 := ⟨⟨_, Tryd.underlying12, rfl⟩, by kernel_rfl⟩
instance : TEl Tryd.prog 12 1 8 (.int .u64 0) := ⟨by kernel_rfl, rfl, by decide⟩
instance : TZero Tryd.prog 12 [.int .u64 0] := ⟨.int .u64 0, by kernel_rfl, rfl⟩
instance : TRow Tryd.prog 13 2 := ⟨⟨_, Tryd.underlying13, rfl⟩, by kernel_rfl⟩
instance : TFld Tryd.prog 13 0 0 := ⟨_, _, 0, Tryd.underlying13, rfl, rfl, by kernel_rfl⟩
instance : TFld Tryd.prog 13 1 1 := ⟨_, _, 0, Tryd.underlying13, rfl, rfl, by kernel_rfl⟩
instance : TEl Tryd.prog 13 2 24 (.agg #[.string ⟨#[]⟩, .int .u64 0]) := ⟨by kernel_rfl, rfl, by decide⟩
instance : TZero Tryd.prog 13 [.string ⟨#[]⟩, .int .u64 0] := ⟨.agg #[.string ⟨#[]⟩, .int .u64 0], by kernel_rfl, rfl⟩
instance : TRow Tryd.prog 14 2 := ⟨⟨_, Tryd.underlying14, rfl⟩, by kernel_rfl⟩
instance : TFld Tryd.prog 14 0 0 := ⟨_, _, 0, Tryd.underlying14, rfl, rfl, by kernel_rfl⟩
instance : TFld Tryd.prog 14 1 1 := ⟨_, _, 0, Tryd.underlying14, rfl, rfl, by kernel_rfl⟩
instance : TEl Tryd.prog 14 2 24 (.agg #[.string ⟨#[]⟩, .int .u64 0]) := ⟨by kernel_rfl, rfl, by decide⟩
instance : TZero Tryd.prog 14 [.string ⟨#[]⟩, .int .u64 0] := ⟨.agg #[.string ⟨#[]⟩, .int .u64 0], by kernel_rfl, rfl⟩
instance : TOne Tryd.prog 15 := ⟨⟨_, Tryd.underlying15, rfl⟩, by kernel_rfl⟩
instance : TPtr Tryd.prog 15 := ⟨⟨_, Tryd.underlying15⟩⟩
instance : TEl Tryd.prog 15 1 8 (.pointer none) := ⟨by kernel_rfl, rfl, by decide⟩
instance : TZero Tryd.prog 15 [.pointer none] := ⟨.pointer none, by kernel_rfl, rfl⟩
instance : TOne Tryd.prog 16 := ⟨⟨_, Tryd.underlying16, rfl⟩, by kernel_rfl⟩
instance : TPtr Tryd.prog 16 := ⟨⟨_, Tryd.underlying16⟩⟩
instance : TEl Tryd.prog 16 1 8 (.pointer none) := ⟨by kernel_rfl, rfl, by decide⟩
instance : TZero Tryd.prog 16 [.pointer none] := ⟨.pointer none, by kernel_rfl, rfl⟩
instance : TOne Tryd.prog 17 := ⟨⟨_, Tryd.underlying17, rfl⟩, by kernel_rfl⟩
instance : TPtr Tryd.prog 17 := ⟨⟨_, Tryd.underlying17⟩⟩
instance : TEl Tryd.prog 17 1 8 (.pointer none) := ⟨by kernel_rfl, rfl, by decide⟩
instance : TZero Tryd.prog 17 [.pointer none] := ⟨.pointer none, by kernel_rfl, rfl⟩
instance : TRow Tryd.prog 18 1 := ⟨⟨_, Tryd.underlying18, rfl⟩, by kernel_rfl⟩
instance : TFld Tryd.prog 18 0 0 := ⟨_, _, 0, Tryd.underlying18, rfl, rfl, by kernel_rfl⟩
instance : TEl Tryd.prog 18 1 8 (.agg #[.pointer none]) := ⟨by kernel_rfl, rfl, by decide⟩
instance : TZero Tryd.prog 18 [.pointer none] := ⟨.agg #[.pointer none], by kernel_rfl, rfl⟩
instance : TRow Tryd.prog 19 1 := ⟨⟨_, Tryd.underlying19, rfl⟩, by kernel_rfl⟩
instance : TFld Tryd.prog 19 0 0 := ⟨_, _, 0, Tryd.underlying19, rfl, rfl, by kernel_rfl⟩
instance : TEl Tryd.prog 19 1 8 (.agg #[.pointer none]) := ⟨by kernel_rfl, rfl, by decide⟩
instance : TZero Tryd.prog 19 [.pointer none] := ⟨.agg #[.pointer none], by kernel_rfl, rfl⟩
instance : TOne Tryd.prog 21 := ⟨⟨_, Tryd.underlying21, rfl⟩, by kernel_rfl⟩
instance : TEl Tryd.prog 21 1 4 (.int .i32 0) := ⟨by kernel_rfl, rfl, by decide⟩
instance : TZero Tryd.prog 21 [.int .i32 0] := ⟨.int .i32 0, by kernel_rfl, rfl⟩
instance : TRow Tryd.prog 22 2 := ⟨⟨_, Tryd.underlying22, rfl⟩, by kernel_rfl⟩
instance : TFld Tryd.prog 22 0 0 := ⟨_, _, 0, Tryd.underlying22, rfl, rfl, by kernel_rfl⟩
instance : TFld Tryd.prog 22 1 1 := ⟨_, _, 0, Tryd.underlying22, rfl, rfl, by kernel_rfl⟩
instance : TEq Tryd.prog 22 [0, 0] := ⟨by kernel_rfl, by kernel_rfl, _, Tryd.underlying22⟩
instance : TEl Tryd.prog 22 2 16 (.agg #[.int .i64 0, .int .i64 0]) := ⟨by kernel_rfl, rfl, by decide⟩
instance : TZero Tryd.prog 22 [.int .i64 0, .int .i64 0] := ⟨.agg #[.int .i64 0, .int .i64 0], by kernel_rfl, rfl⟩
instance : TRow Tryd.prog 23 2 := ⟨⟨_, Tryd.underlying23, rfl⟩, by kernel_rfl⟩
instance : TFld Tryd.prog 23 0 0 := ⟨_, _, 0, Tryd.underlying23, rfl, rfl, by kernel_rfl⟩
instance : TFld Tryd.prog 23 1 1 := ⟨_, _, 0, Tryd.underlying23, rfl, rfl, by kernel_rfl⟩
instance : TEq Tryd.prog 23 [0, 0] := ⟨by kernel_rfl, by kernel_rfl, _, Tryd.underlying23⟩
instance : TEl Tryd.prog 23 2 16 (.agg #[.int .i64 0, .int .i64 0]) := ⟨by kernel_rfl, rfl, by decide⟩
instance : TZero Tryd.prog 23 [.int .i64 0, .int .i64 0] := ⟨.agg #[.int .i64 0, .int .i64 0], by kernel_rfl, rfl⟩
instance : TRow Tryd.prog 24 12 := ⟨⟨_, Tryd.underlying24, rfl⟩, by kernel_rfl⟩
instance : TFld Tryd.prog 24 0 0 := ⟨_, _, 1, Tryd.underlying24, rfl, rfl, by kernel_rfl⟩
instance : TFld Tryd.prog 24 1 2 := ⟨_, _, 1, Tryd.underlying24, rfl, rfl, by kernel_rfl⟩
instance : TFld Tryd.prog 24 2 4 := ⟨_, _, 1, Tryd.underlying24, rfl, rfl, by kernel_rfl⟩
instance : TFld Tryd.prog 24 3 6 := ⟨_, _, 1, Tryd.underlying24, rfl, rfl, by kernel_rfl⟩
instance : TFld Tryd.prog 24 4 8 := ⟨_, _, 1, Tryd.underlying24, rfl, rfl, by kernel_rfl⟩
instance : TFld Tryd.prog 24 5 10 := ⟨_, _, 1, Tryd.underlying24, rfl, rfl, by kernel_rfl⟩
instance : TEq Tryd.prog 24 [0, 0, 0, 0, 0, 0, 0, 0, 0, 0, 0, 0] := ⟨by kernel_rfl, by kernel_rfl, _, Tryd.underlying24⟩
instance : TEl Tryd.prog 24 12 96 (.agg #[.int .i64 0, .int .i64 0, .int .i64 0, .int .i64 0, .int .i64 0, .int .i64 0, .int .i64 0, .int .i64 0, .int .i64 0, .int .i64 0, .int .i64 0, .int .i64 0]) := ⟨by kernel_rfl, rfl, by decide⟩
instance : TZero Tryd.prog 24 [.int .i64 0, .int .i64 0, .int .i64 0, .int .i64 0, .int .i64 0, .int .i64 0, .int .i64 0, .int .i64 0, .int .i64 0, .int .i64 0, .int .i64 0, .int .i64 0] := ⟨.agg #[.int .i64 0, .int .i64 0, .int .i64 0, .int .i64 0, .int .i64 0, .int .i64 0, .int .i64 0, .int .i64 0, .int .i64 0, .int .i64 0, .int .i64 0, .int .i64 0], by kernel_rfl, rfl⟩
instance : TRow Tryd.prog 25 12 := ⟨⟨_, Tryd.underlying25, rfl⟩, by kernel_rfl⟩
instance : TFld Tryd.prog 25 0 0 := ⟨_, _, 1, Tryd.underlying25, rfl, rfl, by kernel_rfl⟩
instance : TFld Tryd.prog 25 1 2 := ⟨_, _, 1, Tryd.underlying25, rfl, rfl, by kernel_rfl⟩
instance : TFld Tryd.prog 25 2 4 := ⟨_, _, 1, Tryd.underlying25, rfl, rfl, by kernel_rfl⟩
instance : TFld Tryd.prog 25 3 6 := ⟨_, _, 1, Tryd.underlying25, rfl, rfl, by kernel_rfl⟩
instance : TFld Tryd.prog 25 4 8 := ⟨_, _, 1, Tryd.underlying25, rfl, rfl, by kernel_rfl⟩
instance : TFld Tryd.prog 25 5 10 := ⟨_, _, 1, Tryd.underlying25, rfl, rfl, by kernel_rfl⟩
instance : TEq Tryd.prog 25 [0, 0, 0, 0, 0, 0, 0, 0, 0, 0, 0, 0] := ⟨by kernel_rfl, by kernel_rfl, _, Tryd.underlying25⟩
instance : TEl Tryd.prog 25 12 96 (.agg #[.int .i64 0, .int .i64 0, .int .i64 0, .int .i64 0, .int .i64 0, .int .i64 0, .int .i64 0, .int .i64 0, .int .i64 0, .int .i64 0, .int .i64 0, .int .i64 0]) := ⟨by kernel_rfl, rfl, by decide⟩
instance : TZero Tryd.prog 25 [.int .i64 0, .int .i64 0, .int .i64 0, .int .i64 0, .int .i64 0, .int .i64 0, .int .i64 0, .int .i64 0, .int .i64 0, .int .i64 0, .int .i64 0, .int .i64 0] := ⟨.agg #[.int .i64 0, .int .i64 0, .int .i64 0, .int .i64 0, .int .i64 0, .int .i64 0, .int .i64 0, .int .i64 0, .int .i64 0, .int .i64 0, .int .i64 0, .int .i64 0], by kernel_rfl, rfl⟩
instance : TRow Tryd.prog 26 4 := ⟨⟨_, Tryd.underlying26, rfl⟩, by kernel_rfl⟩
instance : TFld Tryd.prog 26 0 0 := ⟨_, _, 0, Tryd.underlying26, rfl, rfl, by kernel_rfl⟩
instance : TFld Tryd.prog 26 1 1 := ⟨_, _, 0, Tryd.underlying26, rfl, rfl, by kernel_rfl⟩
instance : TFld Tryd.prog 26 2 2 := ⟨_, _, 0, Tryd.underlying26, rfl, rfl, by kernel_rfl⟩
instance : TFld Tryd.prog 26 3 3 := ⟨_, _, 0, Tryd.underlying26, rfl, rfl, by kernel_rfl⟩
instance : TEq Tryd.prog 26 [0, 0, 0, 0] := ⟨by kernel_rfl, by kernel_rfl, _, Tryd.underlying26⟩
instance : TEl Tryd.prog 26 4 32 (.agg #[.int .i64 0, .int .i64 0, .int .i64 0, .int .i64 0]) := ⟨by kernel_rfl, rfl, by decide⟩
instance : TZero Tryd.prog 26 [.int .i64 0, .int .i64 0, .int .i64 0, .int .i64 0] := ⟨.agg #[.int .i64 0, .int .i64 0, .int .i64 0, .int .i64 0], by kernel_rfl, rfl⟩
instance : TRow Tryd.prog 27 4 := ⟨⟨_, Tryd.underlying27, rfl⟩, by kernel_rfl⟩
instance : TFld Tryd.prog 27 0 0 := ⟨_, _, 0, Tryd.underlying27, rfl, rfl, by kernel_rfl⟩
instance : TFld Tryd.prog 27 1 1 := ⟨_, _, 0, Tryd.underlying27, rfl, rfl, by kernel_rfl⟩
instance : TFld Tryd.prog 27 2 2 := ⟨_, _, 0, Tryd.underlying27, rfl, rfl, by kernel_rfl⟩
instance : TFld Tryd.prog 27 3 3 := ⟨_, _, 0, Tryd.underlying27, rfl, rfl, by kernel_rfl⟩
instance : TEq Tryd.prog 27 [0, 0, 0, 0] := ⟨by kernel_rfl, by kernel_rfl, _, Tryd.underlying27⟩
instance : TEl Tryd.prog 27 4 32 (.agg #[.int .i64 0, .int .i64 0, .int .i64 0, .int .i64 0]) := ⟨by kernel_rfl, rfl, by decide⟩
instance : TZero Tryd.prog 27 [.int .i64 0, .int .i64 0, .int .i64 0, .int .i64 0] := ⟨.agg #[.int .i64 0, .int .i64 0, .int .i64 0, .int .i64 0], by kernel_rfl, rfl⟩
instance : TRow Tryd.prog 28 60 := ⟨⟨_, Tryd.underlying28, rfl⟩, by kernel_rfl⟩
instance : TFld Tryd.prog 28 0 0 := ⟨_, _, 0, Tryd.underlying28, rfl, rfl, by kernel_rfl⟩
instance : TFld Tryd.prog 28 1 1 := ⟨_, _, 0, Tryd.underlying28, rfl, rfl, by kernel_rfl⟩
instance : TFld Tryd.prog 28 2 2 := ⟨_, _, 0, Tryd.underlying28, rfl, rfl, by kernel_rfl⟩
instance : TFld Tryd.prog 28 3 3 := ⟨_, _, 0, Tryd.underlying28, rfl, rfl, by kernel_rfl⟩
instance : TFld Tryd.prog 28 4 4 := ⟨_, _, 0, Tryd.underlying28, rfl, rfl, by kernel_rfl⟩
instance : TFld Tryd.prog 28 5 5 := ⟨_, _, 0, Tryd.underlying28, rfl, rfl, by kernel_rfl⟩
instance : TFld Tryd.prog 28 6 6 := ⟨_, _, 0, Tryd.underlying28, rfl, rfl, by kernel_rfl⟩
instance : TFld Tryd.prog 28 7 7 := ⟨_, _, 0, Tryd.underlying28, rfl, rfl, by kernel_rfl⟩
instance : TFld Tryd.prog 28 8 8 := ⟨_, _, 0, Tryd.underlying28, rfl, rfl, by kernel_rfl⟩
instance : TFld Tryd.prog 28 9 9 := ⟨_, _, 0, Tryd.underlying28, rfl, rfl, by kernel_rfl⟩
instance : TFld Tryd.prog 28 10 10 := ⟨_, _, 0, Tryd.underlying28, rfl, rfl, by kernel_rfl⟩
instance : TFld Tryd.prog 28 11 11 := ⟨_, _, 1, Tryd.underlying28, rfl, rfl, by kernel_rfl⟩
instance : TFld Tryd.prog 28 12 13 := ⟨_, _, 1, Tryd.underlying28, rfl, rfl, by kernel_rfl⟩
instance : TFld Tryd.prog 28 13 15 := ⟨_, _, 1, Tryd.underlying28, rfl, rfl, by kernel_rfl⟩
instance : TFld Tryd.prog 28 14 17 := ⟨_, _, 1, Tryd.underlying28, rfl, rfl, by kernel_rfl⟩
instance : TFld Tryd.prog 28 15 19 := ⟨_, _, 1, Tryd.underlying28, rfl, rfl, by kernel_rfl⟩
instance : TFld Tryd.prog 28 16 21 := ⟨_, _, 1, Tryd.underlying28, rfl, rfl, by kernel_rfl⟩
instance : TFld Tryd.prog 28 17 23 := ⟨_, _, 1, Tryd.underlying28, rfl, rfl, by kernel_rfl⟩
instance : TFld Tryd.prog 28 18 25 := ⟨_, _, 0, Tryd.underlying28, rfl, rfl, by kernel_rfl⟩
instance : TFld Tryd.prog 28 19 26 := ⟨_, _, 11, Tryd.underlying28, rfl, rfl, by kernel_rfl⟩
instance : TFld Tryd.prog 28 20 38 := ⟨_, _, 11, Tryd.underlying28, rfl, rfl, by kernel_rfl⟩
instance : TFld Tryd.prog 28 21 50 := ⟨_, _, 3, Tryd.underlying28, rfl, rfl, by kernel_rfl⟩
instance : TFld Tryd.prog 28 22 54 := ⟨_, _, 3, Tryd.underlying28, rfl, rfl, by kernel_rfl⟩
instance : TFld Tryd.prog 28 23 58 := ⟨_, _, 0, Tryd.underlying28, rfl, rfl, by kernel_rfl⟩
instance : TFld Tryd.prog 28 24 59 := ⟨_, _, 0, Tryd.underlying28, rfl, rfl, by kernel_rfl⟩
instance : TEq Tryd.prog 28 [0, 0, 0, 0, 0, 0, 1, 1, 0, 0, 0, 0, 0, 0, 0, 0, 0, 0, 0, 0, 0, 0, 0, 0, 0, 0, 0, 0, 0, 0, 0, 0, 0, 0, 0, 0, 0, 0, 0, 0, 0, 0, 0, 0, 0, 0, 0, 0, 0, 0, 0, 0, 0, 0, 0, 0, 0, 0, 0, 0] := ⟨by kernel_rfl, by kernel_rfl, _, Tryd.underlying28⟩
instance : TEl Tryd.prog 28 60 472 (.agg #[.int .i64 0, .int .i64 0, .int .i64 0, .int .i64 0, .int .i64 0, .int .i64 0, .bool false, .bool false, .int .i64 0, .int .i64 0, .int .i64 0, .int .i64 0, .int .i64 0, .int .i64 0, .int .i64 0, .int .i64 0, .int .i64 0, .int .i64 0, .int .i64 0, .int .i64 0, .int .i64 0, .int .i64 0, .int .i64 0, .int .i64 0, .int .i64 0, .int .i64 0, .int .i64 0, .int .i64 0, .int .i64 0, .int .i64 0, .int .i64 0, .int .i64 0, .int .i64 0, .int .i64 0, .int .i64 0, .int .i64 0, .int .i64 0, .int .i64 0, .int .i64 0, .int .i64 0, .int .i64 0, .int .i64 0, .int .i64 0, .int .i64 0, .int .i64 0, .int .i64 0, .int .i64 0, .int .i64 0, .int .i64 0, .int .i64 0, .int .i64 0, .int .i64 0, .int .i64 0, .int .i64 0, .int .i64 0, .int .i64 0, .int .i64 0, .int .i64 0, .int .i64 0, .int .i64 0]) := ⟨by kernel_rfl, rfl, by decide⟩
instance : TZero Tryd.prog 28 [.int .i64 0, .int .i64 0, .int .i64 0, .int .i64 0, .int .i64 0, .int .i64 0, .bool false, .bool false, .int .i64 0, .int .i64 0, .int .i64 0, .int .i64 0, .int .i64 0, .int .i64 0, .int .i64 0, .int .i64 0, .int .i64 0, .int .i64 0, .int .i64 0, .int .i64 0, .int .i64 0, .int .i64 0, .int .i64 0, .int .i64 0, .int .i64 0, .int .i64 0, .int .i64 0, .int .i64 0, .int .i64 0, .int .i64 0, .int .i64 0, .int .i64 0, .int .i64 0, .int .i64 0, .int .i64 0, .int .i64 0, .int .i64 0, .int .i64 0, .int .i64 0, .int .i64 0, .int .i64 0, .int .i64 0, .int .i64 0, .int .i64 0, .int .i64 0, .int .i64 0, .int .i64 0, .int .i64 0, .int .i64 0, .int .i64 0, .int .i64 0, .int .i64 0, .int .i64 0, .int .i64 0, .int .i64 0, .int .i64 0, .int .i64 0, .int .i64 0, .int .i64 0, .int .i64 0] := ⟨.agg #[.int .i64 0, .int .i64 0, .int .i64 0, .int .i64 0, .int .i64 0, .int .i64 0, .bool false, .bool false, .int .i64 0, .int .i64 0, .int .i64 0, .int .i64 0, .int .i64 0, .int .i64 0, .int .i64 0, .int .i64 0, .int .i64 0, .int .i64 0, .int .i64 0, .int .i64 0, .int .i64 0, .int .i64 0, .int .i64 0, .int .i64 0, .int .i64 0, .int .i64 0, .int .i64 0, .int .i64 0, .int .i64 0, .int .i64 0, .int .i64 0, .int .i64 0, .int .i64 0, .int .i64 0, .int .i64 0, .int .i64 0, .int .i64 0, .int .i64 0, .int .i64 0, .int .i64 0, .int .i64 0, .int .i64 0, .int .i64 0, .int .i64 0, .int .i64 0, .int .i64 0, .int .i64 0, .int .i64 0, .int .i64 0, .int .i64 0, .int .i64 0, .int .i64 0, .int .i64 0, .int .i64 0, .int .i64 0, .int .i64 0, .int .i64 0, .int .i64 0, .int .i64 0, .int .i64 0], by kernel_rfl, rfl⟩
instance : TRow Tryd.prog 29 60 := ⟨⟨_, Tryd.underlying29, rfl⟩, by kernel_rfl⟩
instance : TFld Tryd.prog 29 0 0 := ⟨_, _, 0, Tryd.underlying29, rfl, rfl, by kernel_rfl⟩
instance : TFld Tryd.prog 29 1 1 := ⟨_, _, 0, Tryd.underlying29, rfl, rfl, by kernel_rfl⟩
instance : TFld Tryd.prog 29 2 2 := ⟨_, _, 0, Tryd.underlying29, rfl, rfl, by kernel_rfl⟩
instance : TFld Tryd.prog 29 3 3 := ⟨_, _, 0, Tryd.underlying29, rfl, rfl, by kernel_rfl⟩
instance : TFld Tryd.prog 29 4 4 := ⟨_, _, 0, Tryd.underlying29, rfl, rfl, by kernel_rfl⟩
instance : TFld Tryd.prog 29 5 5 := ⟨_, _, 0, Tryd.underlying29, rfl, rfl, by kernel_rfl⟩
instance : TFld Tryd.prog 29 6 6 := ⟨_, _, 0, Tryd.underlying29, rfl, rfl, by kernel_rfl⟩
instance : TFld Tryd.prog 29 7 7 := ⟨_, _, 0, Tryd.underlying29, rfl, rfl, by kernel_rfl⟩
instance : TFld Tryd.prog 29 8 8 := ⟨_, _, 0, Tryd.underlying29, rfl, rfl, by kernel_rfl⟩
instance : TFld Tryd.prog 29 9 9 := ⟨_, _, 0, Tryd.underlying29, rfl, rfl, by kernel_rfl⟩
instance : TFld Tryd.prog 29 10 10 := ⟨_, _, 0, Tryd.underlying29, rfl, rfl, by kernel_rfl⟩
instance : TFld Tryd.prog 29 11 11 := ⟨_, _, 1, Tryd.underlying29, rfl, rfl, by kernel_rfl⟩
instance : TFld Tryd.prog 29 12 13 := ⟨_, _, 1, Tryd.underlying29, rfl, rfl, by kernel_rfl⟩
instance : TFld Tryd.prog 29 13 15 := ⟨_, _, 1, Tryd.underlying29, rfl, rfl, by kernel_rfl⟩
instance : TFld Tryd.prog 29 14 17 := ⟨_, _, 1, Tryd.underlying29, rfl, rfl, by kernel_rfl⟩
instance : TFld Tryd.prog 29 15 19 := ⟨_, _, 1, Tryd.underlying29, rfl, rfl, by kernel_rfl⟩
instance : TFld Tryd.prog 29 16 21 := ⟨_, _, 1, Tryd.underlying29, rfl, rfl, by kernel_rfl⟩
instance : TFld Tryd.prog 29 17 23 := ⟨_, _, 1, Tryd.underlying29, rfl, rfl, by kernel_rfl⟩
instance : TFld Tryd.prog 29 18 25 := ⟨_, _, 0, Tryd.underlying29, rfl, rfl, by kernel_rfl⟩
instance : TFld Tryd.prog 29 19 26 := ⟨_, _, 11, Tryd.underlying29, rfl, rfl, by kernel_rfl⟩
instance : TFld Tryd.prog 29 20 38 := ⟨_, _, 11, Tryd.underlying29, rfl, rfl, by kernel_rfl⟩
instance : TFld Tryd.prog 29 21 50 := ⟨_, _, 3, Tryd.underlying29, rfl, rfl, by kernel_rfl⟩
instance : TFld Tryd.prog 29 22 54 := ⟨_, _, 3, Tryd.underlying29, rfl, rfl, by kernel_rfl⟩
instance : TFld Tryd.prog 29 23 58 := ⟨_, _, 0, Tryd.underlying29, rfl, rfl, by kernel_rfl⟩
instance : TFld Tryd.prog 29 24 59 := ⟨_, _, 0, Tryd.underlying29, rfl, rfl, by kernel_rfl⟩
instance : TEq Tryd.prog 29 [0, 0, 0, 0, 0, 0, 1, 1, 0, 0, 0, 0, 0, 0, 0, 0, 0, 0, 0, 0, 0, 0, 0, 0, 0, 0, 0, 0, 0, 0, 0, 0, 0, 0, 0, 0, 0, 0, 0, 0, 0, 0, 0, 0, 0, 0, 0, 0, 0, 0, 0, 0, 0, 0, 0, 0, 0, 0, 0, 0] := ⟨by kernel_rfl, by kernel_rfl, _, Tryd.underlying29⟩
instance : TEl Tryd.prog 29 60 472 (.agg #[.int .i64 0, .int .i64 0, .int .i64 0, .int .i64 0, .int .i64 0, .int .i64 0, .bool false, .bool false, .int .i64 0, .int .i64 0, .int .i64 0, .int .i64 0, .int .i64 0, .int .i64 0, .int .i64 0, .int .i64 0, .int .i64 0, .int .i64 0, .int .i64 0, .int .i64 0, .int .i64 0, .int .i64 0, .int .i64 0, .int .i64 0, .int .i64 0, .int .i64 0, .int .i64 0, .int .i64 0, .int .i64 0, .int .i64 0, .int .i64 0, .int .i64 0, .int .i64 0, .int .i64 0, .int .i64 0, .int .i64 0, .int .i64 0, .int .i64 0, .int .i64 0, .int .i64 0, .int .i64 0, .int .i64 0, .int .i64 0, .int .i64 0, .int .i64 0, .int .i64 0, .int .i64 0, .int .i64 0, .int .i64 0, .int .i64 0, .int .i64 0, .int .i64 0, .int .i64 0, .int .i64 0, .int .i64 0, .int .i64 0, .int .i64 0, .int .i64 0, .int .i64 0, .int .i64 0]) := ⟨by kernel_rfl, rfl, by decide⟩
instance : TZero Tryd.prog 29 [.int .i64 0, .int .i64 0, .int .i64 0, .int .i64 0, .int .i64 0, .int .i64 0, .bool false, .bool false, .int .i64 0, .int .i64 0, .int .i64 0, .int .i64 0, .int .i64 0, .int .i64 0, .int .i64 0, .int .i64 0, .int .i64 0, .int .i64 0, .int .i64 0, .int .i64 0, .int .i64 0, .int .i64 0, .int .i64 0, .int .i64 0, .int .i64 0, .int .i64 0, .int .i64 0, .int .i64 0, .int .i64 0, .int .i64 0, .int .i64 0, .int .i64 0, .int .i64 0, .int .i64 0, .int .i64 0, .int .i64 0, .int .i64 0, .int .i64 0, .int .i64 0, .int .i64 0, .int .i64 0, .int .i64 0, .int .i64 0, .int .i64 0, .int .i64 0, .int .i64 0, .int .i64 0, .int .i64 0, .int .i64 0, .int .i64 0, .int .i64 0, .int .i64 0, .int .i64 0, .int .i64 0, .int .i64 0, .int .i64 0, .int .i64 0, .int .i64 0, .int .i64 0, .int .i64 0] := ⟨.agg #[.int .i64 0, .int .i64 0, .int .i64 0, .int .i64 0, .int .i64 0, .int .i64 0, .bool false, .bool false, .int .i64 0, .int .i64 0, .int .i64 0, .int .i64 0, .int .i64 0, .int .i64 0, .int .i64 0, .int .i64 0, .int .i64 0, .int .i64 0, .int .i64 0, .int .i64 0, .int .i64 0, .int .i64 0, .int .i64 0, .int .i64 0, .int .i64 0, .int .i64 0, .int .i64 0, .int .i64 0, .int .i64 0, .int .i64 0, .int .i64 0, .int .i64 0, .int .i64 0, .int .i64 0, .int .i64 0, .int .i64 0, .int .i64 0, .int .i64 0, .int .i64 0, .int .i64 0, .int .i64 0, .int .i64 0, .int .i64 0, .int .i64 0, .int .i64 0, .int .i64 0, .int .i64 0, .int .i64 0, .int .i64 0, .int .i64 0, .int .i64 0, .int .i64 0, .int .i64 0, .int .i64 0, .int .i64 0, .int .i64 0, .int .i64 0, .int .i64 0, .int .i64 0, .int .i64 0], by kernel_rfl, rfl⟩
instance : TOne Tryd.prog 30 := ⟨⟨_, Tryd.underlying30, rfl⟩, by kernel_rfl⟩
instance : TSl Tryd.prog 30 9 1 := ⟨Tryd.underlying30, by kernel_rfl⟩
instance : TEl Tryd.prog 30 1 24 (.slice none 0 0) := ⟨by kernel_rfl, rfl, by decide⟩
instance : TZero Tryd.prog 30 [.slice none 0 0] := ⟨.slice none 0 0, by kernel_rfl, rfl⟩
instance : TRow Tryd.prog 32 2 := ⟨⟨_, Tryd.underlying32, rfl⟩, by kernel_rfl⟩
instance : TFld Tryd.prog 32 0 0 := ⟨_, _, 0, Tryd.underlying32, rfl, rfl, by kernel_rfl⟩
instance : TFld Tryd.prog 32 1 1 := ⟨_, _, 0, Tryd.underlying32, rfl, rfl, by kernel_rfl⟩
instance : TEq Tryd.prog 32 [0, 0] := ⟨by kernel_rfl, by kernel_rfl, _, Tryd.underlying32⟩
instance : TEl Tryd.prog 32 2 16 (.agg #[.int .i64 0, .int .i64 0]) := ⟨by kernel_rfl, rfl, by decide⟩
instance : TZero Tryd.prog 32 [.int .i64 0, .int .i64 0] := ⟨.agg #[.int .i64 0, .int .i64 0], by kernel_rfl, rfl⟩
instance : TRow Tryd.prog 33 12 := ⟨⟨_, Tryd.underlying33, rfl⟩, by kernel_rfl⟩
instance : TFld Tryd.prog 33 0 0 := ⟨_, _, 1, Tryd.underlying33, rfl, rfl, by kernel_rfl⟩
instance : TFld Tryd.prog 33 1 2 := ⟨_, _, 1, Tryd.underlying33, rfl, rfl, by kernel_rfl⟩
instance : TFld Tryd.prog 33 2 4 := ⟨_, _, 1, Tryd.underlying33, rfl, rfl, by kernel_rfl⟩
instance : TFld Tryd.prog 33 3 6 := ⟨_, _, 1, Tryd.underlying33, rfl, rfl, by kernel_rfl⟩
instance : TFld Tryd.prog 33 4 8 := ⟨_, _, 1, Tryd.underlying33, rfl, rfl, by kernel_rfl⟩
instance : TFld Tryd.prog 33 5 10 := ⟨_, _, 1, Tryd.underlying33, rfl, rfl, by kernel_rfl⟩
instance : TEq Tryd.prog 33 [0, 0, 0, 0, 0, 0, 0, 0, 0, 0, 0, 0] := ⟨by kernel_rfl, by kernel_rfl, _, Tryd.underlying33⟩
instance : TEl Tryd.prog 33 12 96 (.agg #[.int .i64 0, .int .i64 0, .int .i64 0, .int .i64 0, .int .i64 0, .int .i64 0, .int .i64 0, .int .i64 0, .int .i64 0, .int .i64 0, .int .i64 0, .int .i64 0]) := ⟨by kernel_rfl, rfl, by decide⟩
instance : TZero Tryd.prog 33 [.int .i64 0, .int .i64 0, .int .i64 0, .int .i64 0, .int .i64 0, .int .i64 0, .int .i64 0, .int .i64 0, .int .i64 0, .int .i64 0, .int .i64 0, .int .i64 0] := ⟨.agg #[.int .i64 0, .int .i64 0, .int .i64 0, .int .i64 0, .int .i64 0, .int .i64 0, .int .i64 0, .int .i64 0, .int .i64 0, .int .i64 0, .int .i64 0, .int .i64 0], by kernel_rfl, rfl⟩
instance : TRow Tryd.prog 34 12 := ⟨⟨_, Tryd.underlying34, rfl⟩, by kernel_rfl⟩
instance : TFld Tryd.prog 34 0 0 := ⟨_, _, 1, Tryd.underlying34, rfl, rfl, by kernel_rfl⟩
instance : TFld Tryd.prog 34 1 2 := ⟨_, _, 1, Tryd.underlying34, rfl, rfl, by kernel_rfl⟩
instance : TFld Tryd.prog 34 2 4 := ⟨_, _, 1, Tryd.underlying34, rfl, rfl, by kernel_rfl⟩
instance : TFld Tryd.prog 34 3 6 := ⟨_, _, 1, Tryd.underlying34, rfl, rfl, by kernel_rfl⟩
instance : TFld Tryd.prog 34 4 8 := ⟨_, _, 1, Tryd.underlying34, rfl, rfl, by kernel_rfl⟩
instance : TFld Tryd.prog 34 5 10 := ⟨_, _, 1, Tryd.underlying34, rfl, rfl, by kernel_rfl⟩
instance : TEq Tryd.prog 34 [0, 0, 0, 0, 0, 0, 0, 0, 0, 0, 0, 0] := ⟨by kernel_rfl, by kernel_rfl, _, Tryd.underlying34⟩
instance : TEl Tryd.prog 34 12 96 (.agg #[.int .i64 0, .int .i64 0, .int .i64 0, .int .i64 0, .int .i64 0, .int .i64 0, .int .i64 0, .int .i64 0, .int .i64 0, .int .i64 0, .int .i64 0, .int .i64 0]) := ⟨by kernel_rfl, rfl, by decide⟩
instance : TZero Tryd.prog 34 [.int .i64 0, .int .i64 0, .int .i64 0, .int .i64 0, .int .i64 0, .int .i64 0, .int .i64 0, .int .i64 0, .int .i64 0, .int .i64 0, .int .i64 0, .int .i64 0] := ⟨.agg #[.int .i64 0, .int .i64 0, .int .i64 0, .int .i64 0, .int .i64 0, .int .i64 0, .int .i64 0, .int .i64 0, .int .i64 0, .int .i64 0, .int .i64 0, .int .i64 0], by kernel_rfl, rfl⟩
instance : TRow Tryd.prog 35 4 := ⟨⟨_, Tryd.underlying35, rfl⟩, by kernel_rfl⟩
instance : TFld Tryd.prog 35 0 0 := ⟨_, _, 0, Tryd.underlying35, rfl, rfl, by kernel_rfl⟩
instance : TFld Tryd.prog 35 1 1 := ⟨_, _, 0, Tryd.underlying35, rfl, rfl, by kernel_rfl⟩
instance : TFld Tryd.prog 35 2 2 := ⟨_, _, 0, Tryd.underlying35, rfl, rfl, by kernel_rfl⟩
instance : TFld Tryd.prog 35 3 3 := ⟨_, _, 0, Tryd.underlying35, rfl, rfl, by kernel_rfl⟩
instance : TEq Tryd.prog 35 [0, 0, 0, 0] := ⟨by kernel_rfl, by kernel_rfl, _, Tryd.underlying35⟩
instance : TEl Tryd.prog 35 4 32 (.agg #[.int .i64 0, .int .i64 0, .int .i64 0, .int .i64 0]) := ⟨by kernel_rfl, rfl, by decide⟩
instance : TZero Tryd.prog 35 [.int .i64 0, .int .i64 0, .int .i64 0, .int .i64 0] := ⟨.agg #[.int .i64 0, .int .i64 0, .int .i64 0, .int .i64 0], by kernel_rfl, rfl⟩
instance : TRow Tryd.prog 36 60 := ⟨⟨_, Tryd.underlying36, rfl⟩, by kernel_rfl⟩
instance : TFld Tryd.prog 36 0 0 := ⟨_, _, 0, Tryd.underlying36, rfl, rfl, by kernel_rfl⟩
instance : TFld Tryd.prog 36 1 1 := ⟨_, _, 0, Tryd.underlying36, rfl, rfl, by kernel_rfl⟩
instance : TFld Tryd.prog 36 2 2 := ⟨_, _, 0, Tryd.underlying36, rfl, rfl, by kernel_rfl⟩
instance : TFld Tryd.prog 36 3 3 := ⟨_, _, 0, Tryd.underlying36, rfl, rfl, by kernel_rfl⟩
instance : TFld Tryd.prog 36 4 4 := ⟨_, _, 0, Tryd.underlying36, rfl, rfl, by kernel_rfl⟩
instance : TFld Tryd.prog 36 5 5 := ⟨_, _, 0, Tryd.underlying36, rfl, rfl, by kernel_rfl⟩
instance : TFld Tryd.prog 36 6 6 := ⟨_, _, 0, Tryd.underlying36, rfl, rfl, by kernel_rfl⟩
instance : TFld Tryd.prog 36 7 7 := ⟨_, _, 0, Tryd.underlying36, rfl, rfl, by kernel_rfl⟩
instance : TFld Tryd.prog 36 8 8 := ⟨_, _, 0, Tryd.underlying36, rfl, rfl, by kernel_rfl⟩
instance : TFld Tryd.prog 36 9 9 := ⟨_, _, 0, Tryd.underlying36, rfl, rfl, by kernel_rfl⟩
instance : TFld Tryd.prog 36 10 10 := ⟨_, _, 0, Tryd.underlying36, rfl, rfl, by kernel_rfl⟩
instance : TFld Tryd.prog 36 11 11 := ⟨_, _, 1, Tryd.underlying36, rfl, rfl, by kernel_rfl⟩
instance : TFld Tryd.prog 36 12 13 := ⟨_, _, 1, Tryd.underlying36, rfl, rfl, by kernel_rfl⟩
instance : TFld Tryd.prog 36 13 15 := ⟨_, _, 1, Tryd.underlying36, rfl, rfl, by kernel_rfl⟩
instance : TFld Tryd.prog 36 14 17 := ⟨_, _, 1, Tryd.underlying36, rfl, rfl, by kernel_rfl⟩
instance : TFld Tryd.prog 36 15 19 := ⟨_, _, 1, Tryd.underlying36, rfl, rfl, by kernel_rfl⟩
instance : TFld Tryd.prog 36 16 21 := ⟨_, _, 1, Tryd.underlying36, rfl, rfl, by kernel_rfl⟩
instance : TFld Tryd.prog 36 17 23 := ⟨_, _, 1, Tryd.underlying36, rfl, rfl, by kernel_rfl⟩
instance : TFld Tryd.prog 36 18 25 := ⟨_, _, 0, Tryd.underlying36, rfl, rfl, by kernel_rfl⟩
instance : TFld Tryd.prog 36 19 26 := ⟨_, _, 11, Tryd.underlying36, rfl, rfl, by kernel_rfl⟩
instance : TFld Tryd.prog 36 20 38 := ⟨_, _, 11, Tryd.underlying36, rfl, rfl, by kernel_rfl⟩
instance : TFld Tryd.prog 36 21 50 := ⟨_, _, 3, Tryd.underlying36, rfl, rfl, by kernel_rfl⟩
instance : TFld Tryd.prog 36 22 54 := ⟨_, _, 3, Tryd.underlying36, rfl, rfl, by kernel_rfl⟩
instance : TFld Tryd.prog 36 23 58 := ⟨_, _, 0, Tryd.underlying36, rfl, rfl, by kernel_rfl⟩
instance : TFld Tryd.prog 36 24 59 := ⟨_, _, 0, Tryd.underlying36, rfl, rfl, by kernel_rfl⟩
instance : TEq Tryd.prog 36 [0, 0, 0, 0, 0, 0, 1, 1, 0, 0, 0, 0, 0, 0, 0, 0, 0, 0, 0, 0, 0, 0, 0, 0, 0, 0, 0, 0, 0, 0, 0, 0, 0, 0, 0, 0, 0, 0, 0, 0, 0, 0, 0, 0, 0, 0, 0, 0, 0, 0, 0, 0, 0, 0, 0, 0, 0, 0, 0, 0] := ⟨by kernel_rfl, by kernel_rfl, _, Tryd.underlying36⟩
instance : TEl Tryd.prog 36 60 472 (.agg #[.int .i64 0, .int .i64 0, .int .i64 0, .int .i64 0, .int .i64 0, .int .i64 0, .bool false, .bool false, .int .i64 0, .int .i64 0, .int .i64 0, .int .i64 0, .int .i64 0, .int .i64 0, .int .i64 0, .int .i64 0, .int .i64 0, .int .i64 0, .int .i64 0, .int .i64 0, .int .i64 0, .int .i64 0, .int .i64 0, .int .i64 0, .int .i64 0, .int .i64 0, .int .i64 0, .int .i64 0, .int .i64 0, .int .i64 0, .int .i64 0, .int .i64 0, .int .i64 0, .int .i64 0, .int .i64 0, .int .i64 0, .int .i64 0, .int .i64 0, .int .i64 0, .int .i64 0, .int .i64 0, .int .i64 0, .int .i64 0, .int .i64 0, .int .i64 0, .int .i64 0, .int .i64 0, .int .i64 0, .int .i64 0, .int .i64 0, .int .i64 0, .int .i64 0, .int .i64 0, .int .i64 0, .int .i64 0, .int .i64 0, .int .i64 0, .int .i64 0, .int .i64 0, .int .i64 0]) := ⟨by kernel_rfl, rfl, by decide⟩
instance : TZero Tryd.prog 36 [.int .i64 0, .int .i64 0, .int .i64 0, .int .i64 0, .int .i64 0, .int .i64 0, .bool false, .bool false, .int .i64 0, .int .i64 0, .int .i64 0, .int .i64 0, .int .i64 0, .int .i64 0, .int .i64 0, .int .i64 0, .int .i64 0, .int .i64 0, .int .i64 0, .int .i64 0, .int .i64 0, .int .i64 0, .int .i64 0, .int .i64 0, .int .i64 0, .int .i64 0, .int .i64 0, .int .i64 0, .int .i64 0, .int .i64 0, .int .i64 0, .int .i64 0, .int .i64 0, .int .i64 0, .int .i64 0, .int .i64 0, .int .i64 0, .int .i64 0, .int .i64 0, .int .i64 0, .int .i64 0, .int .i64 0, .int .i64 0, .int .i64 0, .int .i64 0, .int .i64 0, .int .i64 0, .int .i64 0, .int .i64 0, .int .i64 0, .int .i64 0, .int .i64 0, .int .i64 0, .int .i64 0, .int .i64 0, .int .i64 0, .int .i64 0, .int .i64 0, .int .i64 0, .int .i64 0] := ⟨.agg #[.int .i64 0, .int .i64 0, .int .i64 0, .int .i64 0, .int .i64 0, .int .i64 0, .bool false, .bool false, .int .i64 0, .int .i64 0, .int .i64 0, .int .i64 0, .int .i64 0, .int .i64 0, .int .i64 0, .int .i64 0, .int .i64 0, .int .i64 0, .int .i64 0, .int .i64 0, .int .i64 0, .int .i64 0, .int .i64 0, .int .i64 0, .int .i64 0, .int .i64 0, .int .i64 0, .int .i64 0, .int .i64 0, .int .i64 0, .int .i64 0, .int .i64 0, .int .i64 0, .int .i64 0, .int .i64 0, .int .i64 0, .int .i64 0, .int .i64 0, .int .i64 0, .int .i64 0, .int .i64 0, .int .i64 0, .int .i64 0, .int .i64 0, .int .i64 0, .int .i64 0, .int .i64 0, .int .i64 0, .int .i64 0, .int .i64 0, .int .i64 0, .int .i64 0, .int .i64 0, .int .i64 0, .int .i64 0, .int .i64 0, .int .i64 0, .int .i64 0, .int .i64 0, .int .i64 0], by kernel_rfl, rfl⟩
instance : TRow Tryd.prog 37 60 := ⟨⟨_, Tryd.underlying37, rfl⟩, by kernel_rfl⟩
instance : TFld Tryd.prog 37 0 0 := ⟨_, _, 0, Tryd.underlying37, rfl, rfl, by kernel_rfl⟩
instance : TFld Tryd.prog 37 1 1 := ⟨_, _, 0, Tryd.underlying37, rfl, rfl, by kernel_rfl⟩
instance : TFld Tryd.prog 37 2 2 := ⟨_, _, 0, Tryd.underlying37, rfl, rfl, by kernel_rfl⟩
instance : TFld Tryd.prog 37 3 3 := ⟨_, _, 0, Tryd.underlying37, rfl, rfl, by kernel_rfl⟩
instance : TFld Tryd.prog 37 4 4 := ⟨_, _, 0, Tryd.underlying37, rfl, rfl, by kernel_rfl⟩
instance : TFld Tryd.prog 37 5 5 := ⟨_, _, 0, Tryd.underlying37, rfl, rfl, by kernel_rfl⟩
instance : TFld Tryd.prog 37 6 6 := ⟨_, _, 0, Tryd.underlying37, rfl, rfl, by kernel_rfl⟩
instance : TFld Tryd.prog 37 7 7 := ⟨_, _, 0, Tryd.underlying37, rfl, rfl, by kernel_rfl⟩
instance : TFld Tryd.prog 37 8 8 := ⟨_, _, 0, Tryd.underlying37, rfl, rfl, by kernel_rfl⟩
instance : TFld Tryd.prog 37 9 9 := ⟨_, _, 0, Tryd.underlying37, rfl, rfl, by kernel_rfl⟩
instance : TFld Tryd.prog 37 10 10 := ⟨_, _, 0, Tryd.underlying37, rfl, rfl, by kernel_rfl⟩
instance : TFld Tryd.prog 37 11 11 := ⟨_, _, 1, Tryd.underlying37, rfl, rfl, by kernel_rfl⟩
instance : TFld Tryd.prog 37 12 13 := ⟨_, _, 1, Tryd.underlying37, rfl, rfl, by kernel_rfl⟩
instance : TFld Tryd.prog 37 13 15 := ⟨_, _, 1, Tryd.underlying37, rfl, rfl, by kernel_rfl⟩
instance : TFld Tryd.prog 37 14 17 := ⟨_, _, 1, Tryd.underlying37, rfl, rfl, by kernel_rfl⟩
instance : TFld Tryd.prog 37 15 19 := ⟨_, _, 1, Tryd.underlying37, rfl, rfl, by kernel_rfl⟩
instance : TFld Tryd.prog 37 16 21 := ⟨_, _, 1, Tryd.underlying37, rfl, rfl, by kernel_rfl⟩
instance : TFld Tryd.prog 37 17 23 := ⟨_, _, 1, Tryd.underlying37, rfl, rfl, by kernel_rfl⟩
instance : TFld Tryd.prog 37 18 25 := ⟨_, _, 0, Tryd.underlying37, rfl, rfl, by kernel_rfl⟩
instance : TFld Tryd.prog 37 19 26 := ⟨_, _, 11, Tryd.underlying37, rfl, rfl, by kernel_rfl⟩
instance : TFld Tryd.prog 37 20 38 := ⟨_, _, 11, Tryd.underlying37, rfl, rfl, by kernel_rfl⟩
instance : TFld Tryd.prog 37 21 50 := ⟨_, _, 3, Tryd.underlying37, rfl, rfl, by kernel_rfl⟩
instance : TFld Tryd.prog 37 22 54 := ⟨_, _, 3, Tryd.underlying37, rfl, rfl, by kernel_rfl⟩
instance : TFld Tryd.prog 37 23 58 := ⟨_, _, 0, Tryd.underlying37, rfl, rfl, by kernel_rfl⟩
instance : TFld Tryd.prog 37 24 59 := ⟨_, _, 0, Tryd.underlying37, rfl, rfl, by kernel_rfl⟩
instance : TEq Tryd.prog 37 [0, 0, 0, 0, 0, 0, 1, 1, 0, 0, 0, 0, 0, 0, 0, 0, 0, 0, 0, 0, 0, 0, 0, 0, 0, 0, 0, 0, 0, 0, 0, 0, 0, 0, 0, 0, 0, 0, 0, 0, 0, 0, 0, 0, 0, 0, 0, 0, 0, 0, 0, 0, 0, 0, 0, 0, 0, 0, 0, 0] := ⟨by kernel_rfl, by kernel_rfl, _, Tryd.underlying37⟩
instance : TEl Tryd.prog 37 60 472 (.agg #[.int .i64 0, .int .i64 0, .int .i64 0, .int .i64 0, .int .i64 0, .int .i64 0, .bool false, .bool false, .int .i64 0, .int .i64 0, .int .i64 0, .int .i64 0, .int .i64 0, .int .i64 0, .int .i64 0, .int .i64 0, .int .i64 0, .int .i64 0, .int .i64 0, .int .i64 0, .int .i64 0, .int .i64 0, .int .i64 0, .int .i64 0, .int .i64 0, .int .i64 0, .int .i64 0, .int .i64 0, .int .i64 0, .int .i64 0, .int .i64 0, .int .i64 0, .int .i64 0, .int .i64 0, .int .i64 0, .int .i64 0, .int .i64 0, .int .i64 0, .int .i64 0, .int .i64 0, .int .i64 0, .int .i64 0, .int .i64 0, .int .i64 0, .int .i64 0, .int .i64 0, .int .i64 0, .int .i64 0, .int .i64 0, .int .i64 0, .int .i64 0, .int .i64 0, .int .i64 0, .int .i64 0, .int .i64 0, .int .i64 0, .int .i64 0, .int .i64 0, .int .i64 0, .int .i64 0]) := ⟨by kernel_rfl, rfl, by decide⟩
instance : TZero Tryd.prog 37 [.int .i64 0, .int .i64 0, .int .i64 0, .int .i64 0, .int .i64 0, .int .i64 0, .bool false, .bool false, .int .i64 0, .int .i64 0, .int .i64 0, .int .i64 0, .int .i64 0, .int .i64 0, .int .i64 0, .int .i64 0, .int .i64 0, .int .i64 0, .int .i64 0, .int .i64 0, .int .i64 0, .int .i64 0, .int .i64 0, .int .i64 0, .int .i64 0, .int .i64 0, .int .i64 0, .int .i64 0, .int .i64 0, .int .i64 0, .int .i64 0, .int .i64 0, .int .i64 0, .int .i64 0, .int .i64 0, .int .i64 0, .int .i64 0, .int .i64 0, .int .i64 0, .int .i64 0, .int .i64 0, .int .i64 0, .int .i64 0, .int .i64 0, .int .i64 0, .int .i64 0, .int .i64 0, .int .i64 0, .int .i64 0, .int .i64 0, .int .i64 0, .int .i64 0, .int .i64 0, .int .i64 0, .int .i64 0, .int .i64 0, .int .i64 0, .int .i64 0, .int .i64 0, .int .i64 0] := ⟨.agg #[.int .i64 0, .int .i64 0, .int .i64 0, .int .i64 0, .int .i64 0, .int .i64 0, .bool false, .bool false, .int .i64 0, .int .i64 0, .int .i64 0, .int .i64 0, .int .i64 0, .int .i64 0, .int .i64 0, .int .i64 0, .int .i64 0, .int .i64 0, .int .i64 0, .int .i64 0, .int .i64 0, .int .i64 0, .int .i64 0, .int .i64 0, .int .i64 0, .int .i64 0, .int .i64 0, .int .i64 0, .int .i64 0, .int .i64 0, .int .i64 0, .int .i64 0, .int .i64 0, .int .i64 0, .int .i64 0, .int .i64 0, .int .i64 0, .int .i64 0, .int .i64 0, .int .i64 0, .int .i64 0, .int .i64 0, .int .i64 0, .int .i64 0, .int .i64 0, .int .i64 0, .int .i64 0, .int .i64 0, .int .i64 0, .int .i64 0, .int .i64 0, .int .i64 0, .int .i64 0, .int .i64 0, .int .i64 0, .int .i64 0, .int .i64 0, .int .i64 0, .int .i64 0, .int .i64 0], by kernel_rfl, rfl⟩
instance : TOne Tryd.prog 47 := ⟨⟨_, Tryd.underlying47, rfl⟩, by kernel_rfl⟩
instance : TSl Tryd.prog 47 5 1 := ⟨Tryd.underlying47, by kernel_rfl⟩
instance : TEl Tryd.prog 47 1 24 (.slice none 0 0) := ⟨by kernel_rfl, rfl, by decide⟩
instance : TZero Tryd.prog 47 [.slice none 0 0] := ⟨.slice none 0 0, by kernel_rfl, rfl⟩
instance : TOne Tryd.prog 58 := ⟨⟨_, Tryd.underlying58, rfl⟩, by kernel_rfl⟩
instance : TSl Tryd.prog 58 127 3 := ⟨Tryd.underlying58, by kernel_rfl⟩
instance : TEl Tryd.prog 58 1 24 (.slice none 0 0) := ⟨by kernel_rfl, rfl, by decide⟩
instance : TZero Tryd.prog 58 [.slice none 0 0] := ⟨.slice none 0 0, by kernel_rfl, rfl⟩
instance : TRow Tryd.prog 59 1 := ⟨⟨_, Tryd.underlying59, rfl⟩, by kernel_rfl⟩
instance : TFld Tryd.prog 59 0 0 := ⟨_, _, 0, Tryd.underlying59, rfl, rfl, by kernel_rfl⟩
instance : TEl Tryd.prog 59 1 24 (.agg #[.slice none 0 0]) := ⟨by kernel_rfl, rfl, by decide⟩
instance : TZero Tryd.prog 59 [.slice none 0 0] := ⟨.agg #[.slice none 0 0], by kernel_rfl, rfl⟩
instance : TRow Tryd.prog 60 1 := ⟨⟨_, Tryd.underlying60, rfl⟩, by kernel_rfl⟩
instance : TFld Tryd.prog 60 0 0 := ⟨_, _, 0, Tryd.underlying60, rfl, rfl, by kernel_rfl⟩
instance : TEl Tryd.prog 60 1 24 (.agg #[.slice none 0 0]) := ⟨by kernel_rfl, rfl, by decide⟩
instance : TZero Tryd.prog 60 [.slice none 0 0] := ⟨.agg #[.slice none 0 0], by kernel_rfl, rfl⟩
instance : TOne Tryd.prog 66 := ⟨⟨_, Tryd.underlying66, rfl⟩, by kernel_rfl⟩
instance : TSl Tryd.prog 66 194 3 := ⟨Tryd.underlying66, by kernel_rfl⟩
instance : TEl Tryd.prog 66 1 24 (.slice none 0 0) := ⟨by kernel_rfl, rfl, by decide⟩
instance : TZero Tryd.prog 66 [.slice none 0 0] := ⟨.slice none 0 0, by kernel_rfl, rfl⟩
instance : TRow Tryd.prog 67 1 := ⟨⟨_, Tryd.underlying67, rfl⟩, by kernel_rfl⟩
instance : TFld Tryd.prog 67 0 0 := ⟨_, _, 0, Tryd.underlying67, rfl, rfl, by kernel_rfl⟩
instance : TEl Tryd.prog 67 1 24 (.agg #[.slice none 0 0]) := ⟨by kernel_rfl, rfl, by decide⟩
instance : TZero Tryd.prog 67 [.slice none 0 0] := ⟨.agg #[.slice none 0 0], by kernel_rfl, rfl⟩
instance : TRow Tryd.prog 68 1 := ⟨⟨_, Tryd.underlying68, rfl⟩, by kernel_rfl⟩
instance : TFld Tryd.prog 68 0 0 := ⟨_, _, 0, Tryd.underlying68, rfl, rfl, by kernel_rfl⟩
instance : TEl Tryd.prog 68 1 24 (.agg #[.slice none 0 0]) := ⟨by kernel_rfl, rfl, by decide⟩
instance : TZero Tryd.prog 68 [.slice none 0 0] := ⟨.agg #[.slice none 0 0], by kernel_rfl, rfl⟩
instance : TRow Tryd.prog 69 11 := ⟨⟨_, Tryd.underlying69, rfl⟩, by kernel_rfl⟩
instance : TFld Tryd.prog 69 0 0 := ⟨_, _, 0, Tryd.underlying69, rfl, rfl, by kernel_rfl⟩
instance : TFld Tryd.prog 69 1 1 := ⟨_, _, 0, Tryd.underlying69, rfl, rfl, by kernel_rfl⟩
instance : TFld Tryd.prog 69 2 2 := ⟨_, _, 0, Tryd.underlying69, rfl, rfl, by kernel_rfl⟩
instance : TFld Tryd.prog 69 3 3 := ⟨_, _, 0, Tryd.underlying69, rfl, rfl, by kernel_rfl⟩
instance : TFld Tryd.prog 69 4 4 := ⟨_, _, 0, Tryd.underlying69, rfl, rfl, by kernel_rfl⟩
instance : TFld Tryd.prog 69 5 5 := ⟨_, _, 1, Tryd.underlying69, rfl, rfl, by kernel_rfl⟩
instance : TFld Tryd.prog 69 6 7 := ⟨_, _, 0, Tryd.underlying69, rfl, rfl, by kernel_rfl⟩
instance : TFld Tryd.prog 69 7 8 := ⟨_, _, 0, Tryd.underlying69, rfl, rfl, by kernel_rfl⟩
instance : TFld Tryd.prog 69 8 9 := ⟨_, _, 0, Tryd.underlying69, rfl, rfl, by kernel_rfl⟩
instance : TFld Tryd.prog 69 9 10 := ⟨_, _, 0, Tryd.underlying69, rfl, rfl, by kernel_rfl⟩
instance : TEl Tryd.prog 69 11 112 (.agg #[.int .i64 0, .int .i64 0, .int .i64 0, .int .i64 0, .string ⟨#[]⟩, .int .i64 0, .int .i64 0, .slice none 0 0, .int .i64 0, .int .i64 0, .bool false]) := ⟨by kernel_rfl, rfl, by decide⟩
instance : TZero Tryd.prog 69 [.int .i64 0, .int .i64 0, .int .i64 0, .int .i64 0, .string ⟨#[]⟩, .int .i64 0, .int .i64 0, .slice none 0 0, .int .i64 0, .int .i64 0, .bool false] := ⟨.agg #[.int .i64 0, .int .i64 0, .int .i64 0, .int .i64 0, .string ⟨#[]⟩, .int .i64 0, .int .i64 0, .slice none 0 0, .int .i64 0, .int .i64 0, .bool false], by kernel_rfl, rfl⟩
instance : TRow Tryd.prog 70 11 := ⟨⟨_, Tryd.underlying70, rfl⟩, by kernel_rfl⟩
instance : TFld Tryd.prog 70 0 0 := ⟨_, _, 0, Tryd.underlying70, rfl, rfl, by kernel_rfl⟩
instance : TFld Tryd.prog 70 1 1 := ⟨_, _, 0, Tryd.underlying70, rfl, rfl, by kernel_rfl⟩
instance : TFld Tryd.prog 70 2 2 := ⟨_, _, 0, Tryd.underlying70, rfl, rfl, by kernel_rfl⟩
instance : TFld Tryd.prog 70 3 3 := ⟨_, _, 0, Tryd.underlying70, rfl, rfl, by kernel_rfl⟩
instance : TFld Tryd.prog 70 4 4 := ⟨_, _, 0, Tryd.underlying70, rfl, rfl, by kernel_rfl⟩
instance : TFld Tryd.prog 70 5 5 := ⟨_, _, 1, Tryd.underlying70, rfl, rfl, by kernel_rfl⟩
instance : TFld Tryd.prog 70 6 7 := ⟨_, _, 0, Tryd.underlying70, rfl, rfl, by kernel_rfl⟩
instance : TFld Tryd.prog 70 7 8 := ⟨_, _, 0, Tryd.underlying70, rfl, rfl, by kernel_rfl⟩
instance : TFld Tryd.prog 70 8 9 := ⟨_, _, 0, Tryd.underlying70, rfl, rfl, by kernel_rfl⟩
instance : TFld Tryd.prog 70 9 10 := ⟨_, _, 0, Tryd.underlying70, rfl, rfl, by kernel_rfl⟩
instance : TEl Tryd.prog 70 11 112 (.agg #[.int .i64 0, .int .i64 0, .int .i64 0, .int .i64 0, .string ⟨#[]⟩, .int .i64 0, .int .i64 0, .slice none 0 0, .int .i64 0, .int .i64 0, .bool false]) := ⟨by kernel_rfl, rfl, by decide⟩
instance : TZero Tryd.prog 70 [.int .i64 0, .int .i64 0, .int .i64 0, .int .i64 0, .string ⟨#[]⟩, .int .i64 0, .int .i64 0, .slice none 0 0, .int .i64 0, .int .i64 0, .bool false] := ⟨.agg #[.int .i64 0, .int .i64 0, .int .i64 0, .int .i64 0, .string ⟨#[]⟩, .int .i64 0, .int .i64 0, .slice none 0 0, .int .i64 0, .int .i64 0, .bool false], by kernel_rfl, rfl⟩
instance : TRow Tryd.prog 73 11 := ⟨⟨_, Tryd.underlying73, rfl⟩, by kernel_rfl⟩
instance : TFld Tryd.prog 73 0 0 := ⟨_, _, 0, Tryd.underlying73, rfl, rfl, by kernel_rfl⟩
instance : TFld Tryd.prog 73 1 1 := ⟨_, _, 0, Tryd.underlying73, rfl, rfl, by kernel_rfl⟩
instance : TFld Tryd.prog 73 2 2 := ⟨_, _, 0, Tryd.underlying73, rfl, rfl, by kernel_rfl⟩
instance : TFld Tryd.prog 73 3 3 := ⟨_, _, 0, Tryd.underlying73, rfl, rfl, by kernel_rfl⟩
instance : TFld Tryd.prog 73 4 4 := ⟨_, _, 0, Tryd.underlying73, rfl, rfl, by kernel_rfl⟩
instance : TFld Tryd.prog 73 5 5 := ⟨_, _, 1, Tryd.underlying73, rfl, rfl, by kernel_rfl⟩
instance : TFld Tryd.prog 73 6 7 := ⟨_, _, 0, Tryd.underlying73, rfl, rfl, by kernel_rfl⟩
instance : TFld Tryd.prog 73 7 8 := ⟨_, _, 0, Tryd.underlying73, rfl, rfl, by kernel_rfl⟩
instance : TFld Tryd.prog 73 8 9 := ⟨_, _, 0, Tryd.underlying73, rfl, rfl, by kernel_rfl⟩
instance : TFld Tryd.prog 73 9 10 := ⟨_, _, 0, Tryd.underlying73, rfl, rfl, by kernel_rfl⟩
instance : TEl Tryd.prog 73 11 112 (.agg #[.int .i64 0, .int .i64 0, .int .i64 0, .int .i64 0, .string ⟨#[]⟩, .int .i64 0, .int .i64 0, .slice none 0 0, .int .i64 0, .int .i64 0, .bool false]) := ⟨by kernel_rfl, rfl, by decide⟩
instance : TZero Tryd.prog 73 [.int .i64 0, .int .i64 0, .int .i64 0, .int .i64 0, .string ⟨#[]⟩, .int .i64 0, .int .i64 0, .slice none 0 0, .int .i64 0, .int .i64 0, .bool false] := ⟨.agg #[.int .i64 0, .int .i64 0, .int .i64 0, .int .i64 0, .string ⟨#[]⟩, .int .i64 0, .int .i64 0, .slice none 0 0, .int .i64 0, .int .i64 0, .bool false], by kernel_rfl, rfl⟩
instance : TRow Tryd.prog 74 11 := ⟨⟨_, Tryd.underlying74, rfl⟩, by kernel_rfl⟩
instance : TFld Tryd.prog 74 0 0 := ⟨_, _, 0, Tryd.underlying74, rfl, rfl, by kernel_rfl⟩
instance : TFld Tryd.prog 74 1 1 := ⟨_, _, 0, Tryd.underlying74, rfl, rfl, by kernel_rfl⟩
instance : TFld Tryd.prog 74 2 2 := ⟨_, _, 0, Tryd.underlying74, rfl, rfl, by kernel_rfl⟩
instance : TFld Tryd.prog 74 3 3 := ⟨_, _, 0, Tryd.underlying74, rfl, rfl, by kernel_rfl⟩
instance : TFld Tryd.prog 74 4 4 := ⟨_, _, 0, Tryd.underlying74, rfl, rfl, by kernel_rfl⟩
instance : TFld Tryd.prog 74 5 5 := ⟨_, _, 1, Tryd.underlying74, rfl, rfl, by kernel_rfl⟩
instance : TFld Tryd.prog 74 6 7 := ⟨_, _, 0, Tryd.underlying74, rfl, rfl, by kernel_rfl⟩
instance : TFld Tryd.prog 74 7 8 := ⟨_, _, 0, Tryd.underlying74, rfl, rfl, by kernel_rfl⟩
instance : TFld Tryd.prog 74 8 9 := ⟨_, _, 0, Tryd.underlying74, rfl, rfl, by kernel_rfl⟩
instance : TFld Tryd.prog 74 9 10 := ⟨_, _, 0, Tryd.underlying74, rfl, rfl, by kernel_rfl⟩
instance : TEl Tryd.prog 74 11 112 (.agg #[.int .i64 0, .int .i64 0, .int .i64 0, .int .i64 0, .string ⟨#[]⟩, .int .i64 0, .int .i64 0, .slice none 0 0, .int .i64 0, .int .i64 0, .bool false]) := ⟨by kernel_rfl, rfl, by decide⟩
instance : TZero Tryd.prog 74 [.int .i64 0, .int .i64 0, .int .i64 0, .int .i64 0, .string ⟨#[]⟩, .int .i64 0, .int .i64 0, .slice none 0 0, .int .i64 0, .int .i64 0, .bool false] := ⟨.agg #[.int .i64 0, .int .i64 0, .int .i64 0, .int .i64 0, .string ⟨#[]⟩, .int .i64 0, .int .i64 0, .slice none 0 0, .int .i64 0, .int .i64 0, .bool false], by kernel_rfl, rfl⟩
instance : TOne Tryd.prog 78 := ⟨⟨_, Tryd.underlying78, rfl⟩, by kernel_rfl⟩
instance : TSl Tryd.prog 78 180 64 := ⟨Tryd.underlying78, by kernel_rfl⟩
instance : TEl Tryd.prog 78 1 24 (.slice none 0 0) := ⟨by kernel_rfl, rfl, by decide⟩
instance : TZero Tryd.prog 78 [.slice none 0 0] := ⟨.slice none 0 0, by kernel_rfl, rfl⟩
instance : TRow Tryd.prog 79 1 := ⟨⟨_, Tryd.underlying79, rfl⟩, by kernel_rfl⟩
instance : TFld Tryd.prog 79 0 0 := ⟨_, _, 0, Tryd.underlying79, rfl, rfl, by kernel_rfl⟩
instance : TEl Tryd.prog 79 1 24 (.agg #[.slice none 0 0]) := ⟨by kernel_rfl, rfl, by decide⟩
instance : TZero Tryd.prog 79 [.slice none 0 0] := ⟨.agg #[.slice none 0 0], by kernel_rfl, rfl⟩
instance : TRow Tryd.prog 80 1 := ⟨⟨_, Tryd.underlying80, rfl⟩, by kernel_rfl⟩
instance : TFld Tryd.prog 80 0 0 := ⟨_, _, 0, Tryd.underlying80, rfl, rfl, by kernel_rfl⟩
instance : TEl Tryd.prog 80 1 24 (.agg #[.slice none 0 0]) := ⟨by kernel_rfl, rfl, by decide⟩
instance : TZero Tryd.prog 80 [.slice none 0 0] := ⟨.agg #[.slice none 0 0], by kernel_rfl, rfl⟩
instance : TOne Tryd.prog 83 := ⟨⟨_, Tryd.underlying83, rfl⟩, by kernel_rfl⟩
instance : TSl Tryd.prog 83 144 64 := ⟨Tryd.underlying83, by kernel_rfl⟩
instance : TEl Tryd.prog 83 1 24 (.slice none 0 0) := ⟨by kernel_rfl, rfl, by decide⟩
instance : TZero Tryd.prog 83 [.slice none 0 0] := ⟨.slice none 0 0, by kernel_rfl, rfl⟩
instance : TRow Tryd.prog 84 1 := ⟨⟨_, Tryd.underlying84, rfl⟩, by kernel_rfl⟩
instance : TFld Tryd.prog 84 0 0 := ⟨_, _, 0, Tryd.underlying84, rfl, rfl, by kernel_rfl⟩
instance : TEl Tryd.prog 84 1 24 (.agg #[.slice none 0 0]) := ⟨by kernel_rfl, rfl, by decide⟩
instance : TZero Tryd.prog 84 [.slice none 0 0] := ⟨.agg #[.slice none 0 0], by kernel_rfl, rfl⟩
instance : TRow Tryd.prog 85 1 := ⟨⟨_, Tryd.underlying85, rfl⟩, by kernel_rfl⟩
instance : TFld Tryd.prog 85 0 0 := ⟨_, _, 0, Tryd.underlying85, rfl, rfl, by kernel_rfl⟩
instance : TEl Tryd.prog 85 1 24 (.agg #[.slice none 0 0]) := ⟨by kernel_rfl, rfl, by decide⟩
instance : TZero Tryd.prog 85 [.slice none 0 0] := ⟨.agg #[.slice none 0 0], by kernel_rfl, rfl⟩
instance : TOne Tryd.prog 97 := ⟨⟨_, Tryd.underlying97, rfl⟩, by kernel_rfl⟩
instance : TPtr Tryd.prog 97 := ⟨⟨_, Tryd.underlying97⟩⟩
instance : TEl Tryd.prog 97 1 8 (.pointer none) := ⟨by kernel_rfl, rfl, by decide⟩
instance : TZero Tryd.prog 97 [.pointer none] := ⟨.pointer none, by kernel_rfl, rfl⟩
instance : TOne Tryd.prog 98 := ⟨⟨_, Tryd.underlying98, rfl⟩, by kernel_rfl⟩
instance : TPtr Tryd.prog 98 := ⟨⟨_, Tryd.underlying98⟩⟩
instance : TEl Tryd.prog 98 1 8 (.pointer none) := ⟨by kernel_rfl, rfl, by decide⟩
instance : TZero Tryd.prog 98 [.pointer none] := ⟨.pointer none, by kernel_rfl, rfl⟩
instance : TOne Tryd.prog 101 := ⟨⟨_, Tryd.underlying101, rfl⟩, by kernel_rfl⟩
instance : TPtr Tryd.prog 101 := ⟨⟨_, Tryd.underlying101⟩⟩
instance : TEl Tryd.prog 101 1 8 (.pointer none) := ⟨by kernel_rfl, rfl, by decide⟩
instance : TZero Tryd.prog 101 [.pointer none] := ⟨.pointer none, by kernel_rfl, rfl⟩
instance : TOne Tryd.prog 107 := ⟨⟨_, Tryd.underlying107, rfl⟩, by kernel_rfl⟩
instance : TPtr Tryd.prog 107 := ⟨⟨_, Tryd.underlying107⟩⟩
instance : TEl Tryd.prog 107 1 8 (.pointer none) := ⟨by kernel_rfl, rfl, by decide⟩
instance : TZero Tryd.prog 107 [.pointer none] := ⟨.pointer none, by kernel_rfl, rfl⟩
instance : TOne Tryd.prog 109 := ⟨⟨_, Tryd.underlying109, rfl⟩, by kernel_rfl⟩
instance : TSl Tryd.prog 109 101 1 := ⟨Tryd.underlying109, by kernel_rfl⟩
instance : TEl Tryd.prog 109 1 24 (.slice none 0 0) := ⟨by kernel_rfl, rfl, by decide⟩
instance : TZero Tryd.prog 109 [.slice none 0 0] := ⟨.slice none 0 0, by kernel_rfl, rfl⟩
instance : TOne Tryd.prog 111 := ⟨⟨_, Tryd.underlying111, rfl⟩, by kernel_rfl⟩
instance : TSl Tryd.prog 111 98 1 := ⟨Tryd.underlying111, by kernel_rfl⟩
instance : TEl Tryd.prog 111 1 24 (.slice none 0 0) := ⟨by kernel_rfl, rfl, by decide⟩
instance : TZero Tryd.prog 111 [.slice none 0 0] := ⟨.slice none 0 0, by kernel_rfl, rfl⟩
instance : TOne Tryd.prog 116 := ⟨⟨_, Tryd.underlying116, rfl⟩, by kernel_rfl⟩
instance : TPtr Tryd.prog 116 := ⟨⟨_, Tryd.underlying116⟩⟩
instance : TEl Tryd.prog 116 1 8 (.pointer none) := ⟨by kernel_rfl, rfl, by decide⟩
instance : TZero Tryd.prog 116 [.pointer none] := ⟨.pointer none, by kernel_rfl, rfl⟩
instance : TOne Tryd.prog 122 := ⟨⟨_, Tryd.underlying122, rfl⟩, by kernel_rfl⟩
instance : TSl Tryd.prog 122 3 1 := ⟨Tryd.underlying122, by kernel_rfl⟩
instance : TEl Tryd.prog 122 1 24 (.slice none 0 0) := ⟨by kernel_rfl, rfl, by decide⟩
instance : TZero Tryd.prog 122 [.slice none 0 0] := ⟨.slice none 0 0, by kernel_rfl, rfl⟩
instance : TRow Tryd.prog 126 3 := ⟨⟨_, Tryd.underlying126, rfl⟩, by kernel_rfl⟩
instance : TFld Tryd.prog 126 0 0 := ⟨_, _, 0, Tryd.underlying126, rfl, rfl, by kernel_rfl⟩
instance : TFld Tryd.prog 126 1 1 := ⟨_, _, 0, Tryd.underlying126, rfl, rfl, by kernel_rfl⟩
instance : TFld Tryd.prog 126 2 2 := ⟨_, _, 0, Tryd.underlying126, rfl, rfl, by kernel_rfl⟩
instance : TEq Tryd.prog 126 [0, 0, 0] := ⟨by kernel_rfl, by kernel_rfl, _, Tryd.underlying126⟩
instance : TEl Tryd.prog 126 3 24 (.agg #[.int .i64 0, .int .i64 0, .int .i64 0]) := ⟨by kernel_rfl, rfl, by decide⟩
instance : TZero Tryd.prog 126 [.int .i64 0, .int .i64 0, .int .i64 0] := ⟨.agg #[.int .i64 0, .int .i64 0, .int .i64 0], by kernel_rfl, rfl⟩
instance : TRow Tryd.prog 127 3 := ⟨⟨_, Tryd.underlying127, rfl⟩, by kernel_rfl⟩
instance : TFld Tryd.prog 127 0 0 := ⟨_, _, 0, Tryd.underlying127, rfl, rfl, by kernel_rfl⟩
instance : TFld Tryd.prog 127 1 1 := ⟨_, _, 0, Tryd.underlying127, rfl, rfl, by kernel_rfl⟩
instance : TFld Tryd.prog 127 2 2 := ⟨_, _, 0, Tryd.underlying127, rfl, rfl, by kernel_rfl⟩
instance : TEq Tryd.prog 127 [0, 0, 0] := ⟨by kernel_rfl, by kernel_rfl, _, Tryd.underlying127⟩
instance : TEl Tryd.prog 127 3 24 (.agg #[.int .i64 0, .int .i64 0, .int .i64 0]) := ⟨by kernel_rfl, rfl, by decide⟩
instance : TZero Tryd.prog 127 [.int .i64 0, .int .i64 0, .int .i64 0] := ⟨.agg #[.int .i64 0, .int .i64 0, .int .i64 0], by kernel_rfl, rfl⟩
instance : TRow Tryd.prog 143 64 := ⟨⟨_, Tryd.underlying143, rfl⟩, by kernel_rfl⟩
instance : TFld Tryd.prog 143 0 0 := ⟨_, _, 0, Tryd.underlying143, rfl, rfl, by kernel_rfl⟩
instance : TFld Tryd.prog 143 1 1 := ⟨_, _, 0, Tryd.underlying143, rfl, rfl, by kernel_rfl⟩
instance : TFld Tryd.prog 143 2 2 := ⟨_, _, 59, Tryd.underlying143, rfl, rfl, by kernel_rfl⟩
instance : TFld Tryd.prog 143 3 62 := ⟨_, _, 0, Tryd.underlying143, rfl, rfl, by kernel_rfl⟩
instance : TFld Tryd.prog 143 4 63 := ⟨_, _, 0, Tryd.underlying143, rfl, rfl, by kernel_rfl⟩
instance : TEl Tryd.prog 143 64 536 (.agg #[.int .i64 0, .slice none 0 0, .int .i64 0, .int .i64 0, .int .i64 0, .int .i64 0, .int .i64 0, .int .i64 0, .bool false, .bool false, .int .i64 0, .int .i64 0, .int .i64 0, .int .i64 0, .int .i64 0, .int .i64 0, .int .i64 0, .int .i64 0, .int .i64 0, .int .i64 0, .int .i64 0, .int .i64 0, .int .i64 0, .int .i64 0, .int .i64 0, .int .i64 0, .int .i64 0, .int .i64 0, .int .i64 0, .int .i64 0, .int .i64 0, .int .i64 0, .int .i64 0, .int .i64 0, .int .i64 0, .int .i64 0, .int .i64 0, .int .i64 0, .int .i64 0, .int .i64 0, .int .i64 0, .int .i64 0, .int .i64 0, .int .i64 0, .int .i64 0, .int .i64 0, .int .i64 0, .int .i64 0, .int .i64 0, .int .i64 0, .int .i64 0, .int .i64 0, .int .i64 0, .int .i64 0, .int .i64 0, .int .i64 0, .int .i64 0, .int .i64 0, .int .i64 0, .int .i64 0, .int .i64 0, .int .i64 0, .bool false, .slice none 0 0]) := ⟨by kernel_rfl, rfl, by decide⟩
instance : TZero Tryd.prog 143 [.int .i64 0, .slice none 0 0, .int .i64 0, .int .i64 0, .int .i64 0, .int .i64 0, .int .i64 0, .int .i64 0, .bool false, .bool false, .int .i64 0, .int .i64 0, .int .i64 0, .int .i64 0, .int .i64 0, .int .i64 0, .int .i64 0, .int .i64 0, .int .i64 0, .int .i64 0, .int .i64 0, .int .i64 0, .int .i64 0, .int .i64 0, .int .i64 0, .int .i64 0, .int .i64 0, .int .i64 0, .int .i64 0, .int .i64 0, .int .i64 0, .int .i64 0, .int .i64 0, .int .i64 0, .int .i64 0, .int .i64 0, .int .i64 0, .int .i64 0, .int .i64 0, .int .i64 0, .int .i64 0, .int .i64 0, .int .i64 0, .int .i64 0, .int .i64 0, .int .i64 0, .int .i64 0, .int .i64 0, .int .i64 0, .int .i64 0, .int .i64 0, .int .i64 0, .int .i64 0, .int .i64 0, .int .i64 0, .int .i64 0, .int .i64 0, .int .i64 0, .int .i64 0, .int .i64 0, .int .i64 0, .int .i64 0, .bool false, .slice none 0 0] := ⟨.agg #[.int .i64 0, .slice none 0 0, .int .i64 0, .int .i64 0, .int .i64 0, .int .i64 0, .int .i64 0, .int .i64 0, .bool false, .bool false, .int .i64 0, .int .i64 0, .int .i64 0, .int .i64 0, .int .i64 0, .int .i64 0, .int .i64 0, .int .i64 0, .int .i64 0, .int .i64 0, .int .i64 0, .int .i64 0, .int .i64 0, .int .i64 0, .int .i64 0, .int .i64 0, .int .i64 0, .int .i64 0, .int .i64 0, .int .i64 0, .int .i64 0, .int .i64 0, .int .i64 0, .int .i64 0, .int .i64 0, .int .i64 0, .int .i64 0, .int .i64 0, .int .i64 0, .int .i64 0, .int .i64 0, .int .i64 0, .int .i64 0, .int .i64 0, .int .i64 0, .int .i64 0, .int .i64 0, .int .i64 0, .int .i64 0, .int .i64 0, .int .i64 0, .int .i64 0, .int .i64 0, .int .i64 0, .int .i64 0, .int .i64 0, .int .i64 0, .int .i64 0, .int .i64 0, .int .i64 0, .int .i64 0, .int .i64 0, .bool false, .slice none 0 0], by kernel_rfl, rfl⟩
instance : TRow Tryd.prog 144 64 := ⟨⟨_, Tryd.underlying144, rfl⟩, by kernel_rfl⟩
instance : TFld Tryd.prog 144 0 0 := ⟨_, _, 0, Tryd.underlying144, rfl, rfl, by kernel_rfl⟩
instance : TFld Tryd.prog 144 1 1 := ⟨_, _, 0, Tryd.underlying144, rfl, rfl, by kernel_rfl⟩
instance : TFld Tryd.prog 144 2 2 := ⟨_, _, 59, Tryd.underlying144, rfl, rfl, by kernel_rfl⟩
instance : TFld Tryd.prog 144 3 62 := ⟨_, _, 0, Tryd.underlying144, rfl, rfl, by kernel_rfl⟩
instance : TFld Tryd.prog 144 4 63 := ⟨_, _, 0, Tryd.underlying144, rfl, rfl, by kernel_rfl⟩
instance : TEl Tryd.prog 144 64 536 (.agg #[.int .i64 0, .slice none 0 0, .int .i64 0, .int .i64 0, .int .i64 0, .int .i64 0, .int .i64 0, .int .i64 0, .bool false, .bool false, .int .i64 0, .int .i64 0, .int .i64 0, .int .i64 0, .int .i64 0, .int .i64 0, .int .i64 0, .int .i64 0, .int .i64 0, .int .i64 0, .int .i64 0, .int .i64 0, .int .i64 0, .int .i64 0, .int .i64 0, .int .i64 0, .int .i64 0, .int .i64 0, .int .i64 0, .int .i64 0, .int .i64 0, .int .i64 0, .int .i64 0, .int .i64 0, .int .i64 0, .int .i64 0, .int .i64 0, .int .i64 0, .int .i64 0, .int .i64 0, .int .i64 0, .int .i64 0, .int .i64 0, .int .i64 0, .int .i64 0, .int .i64 0, .int .i64 0, .int .i64 0, .int .i64 0, .int .i64 0, .int .i64 0, .int .i64 0, .int .i64 0, .int .i64 0, .int .i64 0, .int .i64 0, .int .i64 0, .int .i64 0, .int .i64 0, .int .i64 0, .int .i64 0, .int .i64 0, .bool false, .slice none 0 0]) := ⟨by kernel_rfl, rfl, by decide⟩
instance : TZero Tryd.prog 144 [.int .i64 0, .slice none 0 0, .int .i64 0, .int .i64 0, .int .i64 0, .int .i64 0, .int .i64 0, .int .i64 0, .bool false, .bool false, .int .i64 0, .int .i64 0, .int .i64 0, .int .i64 0, .int .i64 0, .int .i64 0, .int .i64 0, .int .i64 0, .int .i64 0, .int .i64 0, .int .i64 0, .int .i64 0, .int .i64 0, .int .i64 0, .int .i64 0, .int .i64 0, .int .i64 0, .int .i64 0, .int .i64 0, .int .i64 0, .int .i64 0, .int .i64 0, .int .i64 0, .int .i64 0, .int .i64 0, .int .i64 0, .int .i64 0, .int .i64 0, .int .i64 0, .int .i64 0, .int .i64 0, .int .i64 0, .int .i64 0, .int .i64 0, .int .i64 0, .int .i64 0, .int .i64 0, .int .i64 0, .int .i64 0, .int .i64 0, .int .i64 0, .int .i64 0, .int .i64 0, .int .i64 0, .int .i64 0, .int .i64 0, .int .i64 0, .int .i64 0, .int .i64 0, .int .i64 0, .int .i64 0, .int .i64 0, .bool false, .slice none 0 0] := ⟨.agg #[.int .i64 0, .slice none 0 0, .int .i64 0, .int .i64 0, .int .i64 0, .int .i64 0, .int .i64 0, .int .i64 0, .bool false, .bool false, .int .i64 0, .int .i64 0, .int .i64 0, .int .i64 0, .int .i64 0, .int .i64 0, .int .i64 0, .int .i64 0, .int .i64 0, .int .i64 0, .int .i64 0, .int .i64 0, .int .i64 0, .int .i64 0, .int .i64 0, .int .i64 0, .int .i64 0, .int .i64 0, .int .i64 0, .int .i64 0, .int .i64 0, .int .i64 0, .int .i64 0, .int .i64 0, .int .i64 0, .int .i64 0, .int .i64 0, .int .i64 0, .int .i64 0, .int .i64 0, .int .i64 0, .int .i64 0, .int .i64 0, .int .i64 0, .int .i64 0, .int .i64 0, .int .i64 0, .int .i64 0, .int .i64 0, .int .i64 0, .int .i64 0, .int .i64 0, .int .i64 0, .int .i64 0, .int .i64 0, .int .i64 0, .int .i64 0, .int .i64 0, .int .i64 0, .int .i64 0, .int .i64 0, .int .i64 0, .bool false, .slice none 0 0], by kernel_rfl, rfl⟩
instance : TOne Tryd.prog 156 := ⟨⟨_, Tryd.underlying156, rfl⟩, by kernel_rfl⟩
instance : TSl Tryd.prog 156 32 2 := ⟨Tryd.underlying156, by kernel_rfl⟩
instance : TEl Tryd.prog 156 1 24 (.slice none 0 0) := ⟨by kernel_rfl, rfl, by decide⟩
instance : TZero Tryd.prog 156 [.slice none 0 0] := ⟨.slice none 0 0, by kernel_rfl, rfl⟩
instance : TRow Tryd.prog 157 3 := ⟨⟨_, Tryd.underlying157, rfl⟩, by kernel_rfl⟩
instance : TFld Tryd.prog 157 0 0 := ⟨_, _, 0, Tryd.underlying157, rfl, rfl, by kernel_rfl⟩
instance : TFld Tryd.prog 157 1 1 := ⟨_, _, 0, Tryd.underlying157, rfl, rfl, by kernel_rfl⟩
instance : TFld Tryd.prog 157 2 2 := ⟨_, _, 0, Tryd.underlying157, rfl, rfl, by kernel_rfl⟩
instance : TEl Tryd.prog 157 3 40 (.agg #[.slice none 0 0, .int .i64 0, .int .i64 0]) := ⟨by kernel_rfl, rfl, by decide⟩
instance : TZero Tryd.prog 157 [.slice none 0 0, .int .i64 0, .int .i64 0] := ⟨.agg #[.slice none 0 0, .int .i64 0, .int .i64 0], by kernel_rfl, rfl⟩
instance : TRow Tryd.prog 158 3 := ⟨⟨_, Tryd.underlying158, rfl⟩, by kernel_rfl⟩
instance : TFld Tryd.prog 158 0 0 := ⟨_, _, 0, Tryd.underlying158, rfl, rfl, by kernel_rfl⟩
instance : TFld Tryd.prog 158 1 1 := ⟨_, _, 0, Tryd.underlying158, rfl, rfl, by kernel_rfl⟩
instance : TFld Tryd.prog 158 2 2 := ⟨_, _, 0, Tryd.underlying158, rfl, rfl, by kernel_rfl⟩
instance : TEl Tryd.prog 158 3 40 (.agg #[.slice none 0 0, .int .i64 0, .int .i64 0]) := ⟨by kernel_rfl, rfl, by decide⟩
instance : TZero Tryd.prog 158 [.slice none 0 0, .int .i64 0, .int .i64 0] := ⟨.agg #[.slice none 0 0, .int .i64 0, .int .i64 0], by kernel_rfl, rfl⟩
instance : TOne Tryd.prog 173 := ⟨⟨_, Tryd.underlying173, rfl⟩, by kernel_rfl⟩
instance : TPtr Tryd.prog 173 := ⟨⟨_, Tryd.underlying173⟩⟩
instance : TEl Tryd.prog 173 1 8 (.pointer none) := ⟨by kernel_rfl, rfl, by decide⟩
instance : TZero Tryd.prog 173 [.pointer none] := ⟨.pointer none, by kernel_rfl, rfl⟩
instance : TRow Tryd.prog 174 2 := ⟨⟨_, Tryd.underlying174, rfl⟩, by kernel_rfl⟩
instance : TFld Tryd.prog 174 0 0 := ⟨_, _, 0, Tryd.underlying174, rfl, rfl, by kernel_rfl⟩
instance : TFld Tryd.prog 174 1 1 := ⟨_, _, 0, Tryd.underlying174, rfl, rfl, by kernel_rfl⟩
instance : TEl Tryd.prog 174 2 32 (.agg #[.pointer none, .slice none 0 0]) := ⟨by kernel_rfl, rfl, by decide⟩
instance : TZero Tryd.prog 174 [.pointer none, .slice none 0 0] := ⟨.agg #[.pointer none, .slice none 0 0], by kernel_rfl, rfl⟩
instance : TRow Tryd.prog 175 2 := ⟨⟨_, Tryd.underlying175, rfl⟩, by kernel_rfl⟩
instance : TFld Tryd.prog 175 0 0 := ⟨_, _, 0, Tryd.underlying175, rfl, rfl, by kernel_rfl⟩
instance : TFld Tryd.prog 175 1 1 := ⟨_, _, 0, Tryd.underlying175, rfl, rfl, by kernel_rfl⟩
instance : TEl Tryd.prog 175 2 32 (.agg #[.pointer none, .slice none 0 0]) := ⟨by kernel_rfl, rfl, by decide⟩
instance : TZero Tryd.prog 175 [.pointer none, .slice none 0 0] := ⟨.agg #[.pointer none, .slice none 0 0], by kernel_rfl, rfl⟩
instance : TRow Tryd.prog 179 64 := ⟨⟨_, Tryd.underlying179, rfl⟩, by kernel_rfl⟩
instance : TFld Tryd.prog 179 0 0 := ⟨_, _, 0, Tryd.underlying179, rfl, rfl, by kernel_rfl⟩
instance : TFld Tryd.prog 179 1 1 := ⟨_, _, 0, Tryd.underlying179, rfl, rfl, by kernel_rfl⟩
instance : TFld Tryd.prog 179 2 2 := ⟨_, _, 59, Tryd.underlying179, rfl, rfl, by kernel_rfl⟩
instance : TFld Tryd.prog 179 3 62 := ⟨_, _, 0, Tryd.underlying179, rfl, rfl, by kernel_rfl⟩
instance : TFld Tryd.prog 179 4 63 := ⟨_, _, 0, Tryd.underlying179, rfl, rfl, by kernel_rfl⟩
instance : TEl Tryd.prog 179 64 536 (.agg #[.int .i64 0, .slice none 0 0, .int .i64 0, .int .i64 0, .int .i64 0, .int .i64 0, .int .i64 0, .int .i64 0, .bool false, .bool false, .int .i64 0, .int .i64 0, .int .i64 0, .int .i64 0, .int .i64 0, .int .i64 0, .int .i64 0, .int .i64 0, .int .i64 0, .int .i64 0, .int .i64 0, .int .i64 0, .int .i64 0, .int .i64 0, .int .i64 0, .int .i64 0, .int .i64 0, .int .i64 0, .int .i64 0, .int .i64 0, .int .i64 0, .int .i64 0, .int .i64 0, .int .i64 0, .int .i64 0, .int .i64 0, .int .i64 0, .int .i64 0, .int .i64 0, .int .i64 0, .int .i64 0, .int .i64 0, .int .i64 0, .int .i64 0, .int .i64 0, .int .i64 0, .int .i64 0, .int .i64 0, .int .i64 0, .int .i64 0, .int .i64 0, .int .i64 0, .int .i64 0, .int .i64 0, .int .i64 0, .int .i64 0, .int .i64 0, .int .i64 0, .int .i64 0, .int .i64 0, .int .i64 0, .int .i64 0, .bool false, .slice none 0 0]) := ⟨by kernel_rfl, rfl, by decide⟩
instance : TZero Tryd.prog 179 [.int .i64 0, .slice none 0 0, .int .i64 0, .int .i64 0, .int .i64 0, .int .i64 0, .int .i64 0, .int .i64 0, .bool false, .bool false, .int .i64 0, .int .i64 0, .int .i64 0, .int .i64 0, .int .i64 0, .int .i64 0, .int .i64 0, .int .i64 0, .int .i64 0, .int .i64 0, .int .i64 0, .int .i64 0, .int .i64 0, .int .i64 0, .int .i64 0, .int .i64 0, .int .i64 0, .int .i64 0, .int .i64 0, .int .i64 0, .int .i64 0, .int .i64 0, .int .i64 0, .int .i64 0, .int .i64 0, .int .i64 0, .int .i64 0, .int .i64 0, .int .i64 0, .int .i64 0, .int .i64 0, .int .i64 0, .int .i64 0, .int .i64 0, .int .i64 0, .int .i64 0, .int .i64 0, .int .i64 0, .int .i64 0, .int .i64 0, .int .i64 0, .int .i64 0, .int .i64 0, .int .i64 0, .int .i64 0, .int .i64 0, .int .i64 0, .int .i64 0, .int .i64 0, .int .i64 0, .int .i64 0, .int .i64 0, .bool false, .slice none 0 0] := ⟨.agg #[.int .i64 0, .slice none 0 0, .int .i64 0, .int .i64 0, .int .i64 0, .int .i64 0, .int .i64 0, .int .i64 0, .bool false, .bool false, .int .i64 0, .int .i64 0, .int .i64 0, .int .i64 0, .int .i64 0, .int .i64 0, .int .i64 0, .int .i64 0, .int .i64 0, .int .i64 0, .int .i64 0, .int .i64 0, .int .i64 0, .int .i64 0, .int .i64 0, .int .i64 0, .int .i64 0, .int .i64 0, .int .i64 0, .int .i64 0, .int .i64 0, .int .i64 0, .int .i64 0, .int .i64 0, .int .i64 0, .int .i64 0, .int .i64 0, .int .i64 0, .int .i64 0, .int .i64 0, .int .i64 0, .int .i64 0, .int .i64 0, .int .i64 0, .int .i64 0, .int .i64 0, .int .i64 0, .int .i64 0, .int .i64 0, .int .i64 0, .int .i64 0, .int .i64 0, .int .i64 0, .int .i64 0, .int .i64 0, .int .i64 0, .int .i64 0, .int .i64 0, .int .i64 0, .int .i64 0, .int .i64 0, .int .i64 0, .bool false, .slice none 0 0], by kernel_rfl, rfl⟩
instance : TRow Tryd.prog 180 64 := ⟨⟨_, Tryd.underlying180, rfl⟩, by kernel_rfl⟩
instance : TFld Tryd.prog 180 0 0 := ⟨_, _, 0, Tryd.underlying180, rfl, rfl, by kernel_rfl⟩
instance : TFld Tryd.prog 180 1 1 := ⟨_, _, 0, Tryd.underlying180, rfl, rfl, by kernel_rfl⟩
instance : TFld Tryd.prog 180 2 2 := ⟨_, _, 59, Tryd.underlying180, rfl, rfl, by kernel_rfl⟩
instance : TFld Tryd.prog 180 3 62 := ⟨_, _, 0, Tryd.underlying180, rfl, rfl, by kernel_rfl⟩
instance : TFld Tryd.prog 180 4 63 := ⟨_, _, 0, Tryd.underlying180, rfl, rfl, by kernel_rfl⟩
instance : TEl Tryd.prog 180 64 536 (.agg #[.int .i64 0, .slice none 0 0, .int .i64 0, .int .i64 0, .int .i64 0, .int .i64 0, .int .i64 0, .int .i64 0, .bool false, .bool false, .int .i64 0, .int .i64 0, .int .i64 0, .int .i64 0, .int .i64 0, .int .i64 0, .int .i64 0, .int .i64 0, .int .i64 0, .int .i64 0, .int .i64 0, .int .i64 0, .int .i64 0, .int .i64 0, .int .i64 0, .int .i64 0, .int .i64 0, .int .i64 0, .int .i64 0, .int .i64 0, .int .i64 0, .int .i64 0, .int .i64 0, .int .i64 0, .int .i64 0, .int .i64 0, .int .i64 0, .int .i64 0, .int .i64 0, .int .i64 0, .int .i64 0, .int .i64 0, .int .i64 0, .int .i64 0, .int .i64 0, .int .i64 0, .int .i64 0, .int .i64 0, .int .i64 0, .int .i64 0, .int .i64 0, .int .i64 0, .int .i64 0, .int .i64 0, .int .i64 0, .int .i64 0, .int .i64 0, .int .i64 0, .int .i64 0, .int .i64 0, .int .i64 0, .int .i64 0, .bool false, .slice none 0 0]) := ⟨by kernel_rfl, rfl, by decide⟩
instance : TZero Tryd.prog 180 [.int .i64 0, .slice none 0 0, .int .i64 0, .int .i64 0, .int .i64 0, .int .i64 0, .int .i64 0, .int .i64 0, .bool false, .bool false, .int .i64 0, .int .i64 0, .int .i64 0, .int .i64 0, .int .i64 0, .int .i64 0, .int .i64 0, .int .i64 0, .int .i64 0, .int .i64 0, .int .i64 0, .int .i64 0, .int .i64 0, .int .i64 0, .int .i64 0, .int .i64 0, .int .i64 0, .int .i64 0, .int .i64 0, .int .i64 0, .int .i64 0, .int .i64 0, .int .i64 0, .int .i64 0, .int .i64 0, .int .i64 0, .int .i64 0, .int .i64 0, .int .i64 0, .int .i64 0, .int .i64 0, .int .i64 0, .int .i64 0, .int .i64 0, .int .i64 0, .int .i64 0, .int .i64 0, .int .i64 0, .int .i64 0, .int .i64 0, .int .i64 0, .int .i64 0, .int .i64 0, .int .i64 0, .int .i64 0, .int .i64 0, .int .i64 0, .int .i64 0, .int .i64 0, .int .i64 0, .int .i64 0, .int .i64 0, .bool false, .slice none 0 0] := ⟨.agg #[.int .i64 0, .slice none 0 0, .int .i64 0, .int .i64 0, .int .i64 0, .int .i64 0, .int .i64 0, .int .i64 0, .bool false, .bool false, .int .i64 0, .int .i64 0, .int .i64 0, .int .i64 0, .int .i64 0, .int .i64 0, .int .i64 0, .int .i64 0, .int .i64 0, .int .i64 0, .int .i64 0, .int .i64 0, .int .i64 0, .int .i64 0, .int .i64 0, .int .i64 0, .int .i64 0, .int .i64 0, .int .i64 0, .int .i64 0, .int .i64 0, .int .i64 0, .int .i64 0, .int .i64 0, .int .i64 0, .int .i64 0, .int .i64 0, .int .i64 0, .int .i64 0, .int .i64 0, .int .i64 0, .int .i64 0, .int .i64 0, .int .i64 0, .int .i64 0, .int .i64 0, .int .i64 0, .int .i64 0, .int .i64 0, .int .i64 0, .int .i64 0, .int .i64 0, .int .i64 0, .int .i64 0, .int .i64 0, .int .i64 0, .int .i64 0, .int .i64 0, .int .i64 0, .int .i64 0, .int .i64 0, .int .i64 0, .bool false, .slice none 0 0], by kernel_rfl, rfl⟩
instance : TOne Tryd.prog 184 := ⟨⟨_, Tryd.underlying184, rfl⟩, by kernel_rfl⟩
instance : TEl Tryd.prog 184 1 8 (.int .u64 0) := ⟨by kernel_rfl, rfl, by decide⟩
instance : TZero Tryd.prog 184 [.int .u64 0] := ⟨.int .u64 0, by kernel_rfl, rfl⟩
instance : TRow Tryd.prog 194 3 := ⟨⟨_, Tryd.underlying194, rfl⟩, by kernel_rfl⟩
instance : TFld Tryd.prog 194 0 0 := ⟨_, _, 0, Tryd.underlying194, rfl, rfl, by kernel_rfl⟩
instance : TFld Tryd.prog 194 1 1 := ⟨_, _, 0, Tryd.underlying194, rfl, rfl, by kernel_rfl⟩
instance : TFld Tryd.prog 194 2 2 := ⟨_, _, 0, Tryd.underlying194, rfl, rfl, by kernel_rfl⟩
instance : TEq Tryd.prog 194 [0, 0, 0] := ⟨by kernel_rfl, by kernel_rfl, _, Tryd.underlying194⟩
instance : TEl Tryd.prog 194 3 24 (.agg #[.int .i64 0, .int .i64 0, .int .i64 0]) := ⟨by kernel_rfl, rfl, by decide⟩
instance : TZero Tryd.prog 194 [.int .i64 0, .int .i64 0, .int .i64 0] := ⟨.agg #[.int .i64 0, .int .i64 0, .int .i64 0], by kernel_rfl, rfl⟩
instance : TOne Tryd.prog 195 := ⟨⟨_, Tryd.underlying195, rfl⟩, by kernel_rfl⟩
instance : TPtr Tryd.prog 195 := ⟨⟨_, Tryd.underlying195⟩⟩
instance : TEl Tryd.prog 195 1 8 (.pointer none) := ⟨by kernel_rfl, rfl, by decide⟩
instance : TZero Tryd.prog 195 [.pointer none] := ⟨.pointer none, by kernel_rfl, rfl⟩
instance : TOne Tryd.prog 197 := ⟨⟨_, Tryd.underlying197, rfl⟩, by kernel_rfl⟩
instance : TEl Tryd.prog 197 1 4 (.int .u32 0) := ⟨by kernel_rfl, rfl, by decide⟩
instance : TZero Tryd.prog 197 [.int .u32 0] := ⟨.int .u32 0, by kernel_rfl, rfl⟩
instance : TOne Tryd.prog 200 := ⟨⟨_, Tryd.underlying200, rfl⟩, by kernel_rfl⟩
instance : TEl Tryd.prog 200 1 8 (.int .u64 0) := ⟨by kernel_rfl, rfl, by decide⟩
instance : TZero Tryd.prog 200 [.int .u64 0] := ⟨.int .u64 0, by kernel_rfl, rfl⟩
instance : TOne Tryd.prog 208 := ⟨⟨_, Tryd.underlying208, rfl⟩, by kernel_rfl⟩
instance : TEl Tryd.prog 208 1 8 (.int .i64 0) := ⟨by kernel_rfl, rfl, by decide⟩
instance : TZero Tryd.prog 208 [.int .i64 0] := ⟨.int .i64 0, by kernel_rfl, rfl⟩
instance : TOne Tryd.prog 211 := ⟨⟨_, Tryd.underlying211, rfl⟩, by kernel_rfl⟩
instance : TPtr Tryd.prog 211 := ⟨⟨_, Tryd.underlying211⟩⟩
instance : TEl Tryd.prog 211 1 8 (.pointer none) := ⟨by kernel_rfl, rfl, by decide⟩
instance : TZero Tryd.prog 211 [.pointer none] := ⟨.pointer none, by kernel_rfl, rfl⟩
instance : TRow Tryd.prog 222 3 := ⟨⟨_, Tryd.underlying222, rfl⟩, by kernel_rfl⟩
instance : TFld Tryd.prog 222 0 0 := ⟨_, _, 0, Tryd.underlying222, rfl, rfl, by kernel_rfl⟩
instance : TFld Tryd.prog 222 1 1 := ⟨_, _, 0, Tryd.underlying222, rfl, rfl, by kernel_rfl⟩
instance : TFld Tryd.prog 222 2 2 := ⟨_, _, 0, Tryd.underlying222, rfl, rfl, by kernel_rfl⟩
instance : TRow Tryd.prog 223 3 := ⟨⟨_, Tryd.underlying223, rfl⟩, by kernel_rfl⟩
instance : TFld Tryd.prog 223 0 0 := ⟨_, _, 0, Tryd.underlying223, rfl, rfl, by kernel_rfl⟩
instance : TFld Tryd.prog 223 1 1 := ⟨_, _, 0, Tryd.underlying223, rfl, rfl, by kernel_rfl⟩
instance : TFld Tryd.prog 223 2 2 := ⟨_, _, 0, Tryd.underlying223, rfl, rfl, by kernel_rfl⟩
instance : TRow Tryd.prog 225 24 := ⟨⟨_, Tryd.underlying225, rfl⟩, by kernel_rfl⟩
instance : TEl Tryd.prog 225 24 24 (.agg #[.int .u8 0, .int .u8 0, .int .u8 0, .int .u8 0, .int .u8 0, .int .u8 0, .int .u8 0, .int .u8 0, .int .u8 0, .int .u8 0, .int .u8 0, .int .u8 0, .int .u8 0, .int .u8 0, .int .u8 0, .int .u8 0, .int .u8 0, .int .u8 0, .int .u8 0, .int .u8 0, .int .u8 0, .int .u8 0, .int .u8 0, .int .u8 0]) := ⟨by kernel_rfl, rfl, by decide⟩
instance : TZero Tryd.prog 225 [.int .u8 0, .int .u8 0, .int .u8 0, .int .u8 0, .int .u8 0, .int .u8 0, .int .u8 0, .int .u8 0, .int .u8 0, .int .u8 0, .int .u8 0, .int .u8 0, .int .u8 0, .int .u8 0, .int .u8 0, .int .u8 0, .int .u8 0, .int .u8 0, .int .u8 0, .int .u8 0, .int .u8 0, .int .u8 0, .int .u8 0, .int .u8 0] := ⟨.agg #[.int .u8 0, .int .u8 0, .int .u8 0, .int .u8 0, .int .u8 0, .int .u8 0, .int .u8 0, .int .u8 0, .int .u8 0, .int .u8 0, .int .u8 0, .int .u8 0, .int .u8 0, .int .u8 0, .int .u8 0, .int .u8 0, .int .u8 0, .int .u8 0, .int .u8 0, .int .u8 0, .int .u8 0, .int .u8 0, .int .u8 0, .int .u8 0], by kernel_rfl, rfl⟩
instance : TRow Tryd.prog 231 2 := ⟨⟨_, Tryd.underlying231, rfl⟩, by kernel_rfl⟩
instance : TFld Tryd.prog 231 0 0 := ⟨_, _, 0, Tryd.underlying231, rfl, rfl, by kernel_rfl⟩
instance : TFld Tryd.prog 231 1 1 := ⟨_, _, 0, Tryd.underlying231, rfl, rfl, by kernel_rfl⟩
instance : TEl Tryd.prog 231 2 2 (.agg #[.int .u8 0, .int .u8 0]) := ⟨by kernel_rfl, rfl, by decide⟩
instance : TZero Tryd.prog 231 [.int .u8 0, .int .u8 0] := ⟨.agg #[.int .u8 0, .int .u8 0], by kernel_rfl, rfl⟩
instance : TRow Tryd.prog 232 2 := ⟨⟨_, Tryd.underlying232, rfl⟩, by kernel_rfl⟩
instance : TFld Tryd.prog 232 0 0 := ⟨_, _, 0, Tryd.underlying232, rfl, rfl, by kernel_rfl⟩
instance : TFld Tryd.prog 232 1 1 := ⟨_, _, 0, Tryd.underlying232, rfl, rfl, by kernel_rfl⟩
instance : TEl Tryd.prog 232 2 2 (.agg #[.int .u8 0, .int .u8 0]) := ⟨by kernel_rfl, rfl, by decide⟩
instance : TZero Tryd.prog 232 [.int .u8 0, .int .u8 0] := ⟨.agg #[.int .u8 0, .int .u8 0], by kernel_rfl, rfl⟩
instance : TRow Tryd.prog 233 32 := ⟨⟨_, Tryd.underlying233, rfl⟩, by kernel_rfl⟩
instance : TEl Tryd.prog 233 32 32 (.agg #[.int .u8 0, .int .u8 0, .int .u8 0, .int .u8 0, .int .u8 0, .int .u8 0, .int .u8 0, .int .u8 0, .int .u8 0, .int .u8 0, .int .u8 0, .int .u8 0, .int .u8 0, .int .u8 0, .int .u8 0, .int .u8 0, .int .u8 0, .int .u8 0, .int .u8 0, .int .u8 0, .int .u8 0, .int .u8 0, .int .u8 0, .int .u8 0, .int .u8 0, .int .u8 0, .int .u8 0, .int .u8 0, .int .u8 0, .int .u8 0, .int .u8 0, .int .u8 0]) := ⟨by kernel_rfl, rfl, by decide⟩
instance : TZero Tryd.prog 233 [.int .u8 0, .int .u8 0, .int .u8 0, .int .u8 0, .int .u8 0, .int .u8 0, .int .u8 0, .int .u8 0, .int .u8 0, .int .u8 0, .int .u8 0, .int .u8 0, .int .u8 0, .int .u8 0, .int .u8 0, .int .u8 0, .int .u8 0, .int .u8 0, .int .u8 0, .int .u8 0, .int .u8 0, .int .u8 0, .int .u8 0, .int .u8 0, .int .u8 0, .int .u8 0, .int .u8 0, .int .u8 0, .int .u8 0, .int .u8 0, .int .u8 0, .int .u8 0] := ⟨.agg #[.int .u8 0, .int .u8 0, .int .u8 0, .int .u8 0, .int .u8 0, .int .u8 0, .int .u8 0, .int .u8 0, .int .u8 0, .int .u8 0, .int .u8 0, .int .u8 0, .int .u8 0, .int .u8 0, .int .u8 0, .int .u8 0, .int .u8 0, .int .u8 0, .int .u8 0, .int .u8 0, .int .u8 0, .int .u8 0, .int .u8 0, .int .u8 0, .int .u8 0, .int .u8 0, .int .u8 0, .int .u8 0, .int .u8 0, .int .u8 0, .int .u8 0, .int .u8 0], by kernel_rfl, rfl⟩
instance : TOne Tryd.prog 236 := ⟨⟨_, Tryd.underlying236, rfl⟩, by kernel_rfl⟩
instance : TPtr Tryd.prog 236 := ⟨⟨_, Tryd.underlying236⟩⟩
instance : TEl Tryd.prog 236 1 8 (.pointer none) := ⟨by kernel_rfl, rfl, by decide⟩
instance : TZero Tryd.prog 236 [.pointer none] := ⟨.pointer none, by kernel_rfl, rfl⟩
instance : TRow Tryd.prog 237 1 := ⟨⟨_, Tryd.underlying237, rfl⟩, by kernel_rfl⟩
instance : TFld Tryd.prog 237 0 0 := ⟨_, _, 0, Tryd.underlying237, rfl, rfl, by kernel_rfl⟩
instance : TEq Tryd.prog 237 [2] := ⟨by kernel_rfl, by kernel_rfl, _, Tryd.underlying237⟩
instance : TEl Tryd.prog 237 1 16 (.agg #[.string ⟨#[]⟩]) := ⟨by kernel_rfl, rfl, by decide⟩
instance : TZero Tryd.prog 237 [.string ⟨#[]⟩] := ⟨.agg #[.string ⟨#[]⟩], by kernel_rfl, rfl⟩
instance : TRow Tryd.prog 238 1 := ⟨⟨_, Tryd.underlying238, rfl⟩, by kernel_rfl⟩
instance : TFld Tryd.prog 238 0 0 := ⟨_, _, 0, Tryd.underlying238, rfl, rfl, by kernel_rfl⟩
instance : TEq Tryd.prog 238 [2] := ⟨by kernel_rfl, by kernel_rfl, _, Tryd.underlying238⟩
instance : TEl Tryd.prog 238 1 16 (.agg #[.string ⟨#[]⟩]) := ⟨by kernel_rfl, rfl, by decide⟩
instance : TZero Tryd.prog 238 [.string ⟨#[]⟩] := ⟨.agg #[.string ⟨#[]⟩], by kernel_rfl, rfl⟩
instance : TRow Tryd.prog 239 20 := ⟨⟨_, Tryd.underlying239, rfl⟩, by kernel_rfl⟩
instance : TEl Tryd.prog 239 20 160 (.agg #[.int .u64 0, .int .u64 0, .int .u64 0, .int .u64 0, .int .u64 0, .int .u64 0, .int .u64 0, .int .u64 0, .int .u64 0, .int .u64 0, .int .u64 0, .int .u64 0, .int .u64 0, .int .u64 0, .int .u64 0, .int .u64 0, .int .u64 0, .int .u64 0, .int .u64 0, .int .u64 0]) := ⟨by kernel_rfl, rfl, by decide⟩
instance : TZero Tryd.prog 239 [.int .u64 0, .int .u64 0, .int .u64 0, .int .u64 0, .int .u64 0, .int .u64 0, .int .u64 0, .int .u64 0, .int .u64 0, .int .u64 0, .int .u64 0, .int .u64 0, .int .u64 0, .int .u64 0, .int .u64 0, .int .u64 0, .int .u64 0, .int .u64 0, .int .u64 0, .int .u64 0] := ⟨.agg #[.int .u64 0, .int .u64 0, .int .u64 0, .int .u64 0, .int .u64 0, .int .u64 0, .int .u64 0, .int .u64 0, .int .u64 0, .int .u64 0, .int .u64 0, .int .u64 0, .int .u64 0, .int .u64 0, .int .u64 0, .int .u64 0, .int .u64 0, .int .u64 0, .int .u64 0, .int .u64 0], by kernel_rfl, rfl⟩
instance : TRow Tryd.prog 240 65 := ⟨⟨_, Tryd.underlying240, rfl⟩, by kernel_rfl⟩
instance : TEl Tryd.prog 240 65 65 (.agg #[.int .u8 0, .int .u8 0, .int .u8 0, .int .u8 0, .int .u8 0, .int .u8 0, .int .u8 0, .int .u8 0, .int .u8 0, .int .u8 0, .int .u8 0, .int .u8 0, .int .u8 0, .int .u8 0, .int .u8 0, .int .u8 0, .int .u8 0, .int .u8 0, .int .u8 0, .int .u8 0, .int .u8 0, .int .u8 0, .int .u8 0, .int .u8 0, .int .u8 0, .int .u8 0, .int .u8 0, .int .u8 0, .int .u8 0, .int .u8 0, .int .u8 0, .int .u8 0, .int .u8 0, .int .u8 0, .int .u8 0, .int .u8 0, .int .u8 0, .int .u8 0, .int .u8 0, .int .u8 0, .int .u8 0, .int .u8 0, .int .u8 0, .int .u8 0, .int .u8 0, .int .u8 0, .int .u8 0, .int .u8 0, .int .u8 0, .int .u8 0, .int .u8 0, .int .u8 0, .int .u8 0, .int .u8 0, .int .u8 0, .int .u8 0, .int .u8 0, .int .u8 0, .int .u8 0, .int .u8 0, .int .u8 0, .int .u8 0, .int .u8 0, .int .u8 0, .int .u8 0]) := ⟨by kernel_rfl, rfl, by decide⟩
instance : TZero Tryd.prog 240 [.int .u8 0, .int .u8 0, .int .u8 0, .int .u8 0, .int .u8 0, .int .u8 0, .int .u8 0, .int .u8 0, .int .u8 0, .int .u8 0, .int .u8 0, .int .u8 0, .int .u8 0, .int .u8 0, .int .u8 0, .int .u8 0, .int .u8 0, .int .u8 0, .int .u8 0, .int .u8 0, .int .u8 0, .int .u8 0, .int .u8 0, .int .u8 0, .int .u8 0, .int .u8 0, .int .u8 0, .int .u8 0, .int .u8 0, .int .u8 0, .int .u8 0, .int .u8 0, .int .u8 0, .int .u8 0, .int .u8 0, .int .u8 0, .int .u8 0, .int .u8 0, .int .u8 0, .int .u8 0, .int .u8 0, .int .u8 0, .int .u8 0, .int .u8 0, .int .u8 0, .int .u8 0, .int .u8 0, .int .u8 0, .int .u8 0, .int .u8 0, .int .u8 0, .int .u8 0, .int .u8 0, .int .u8 0, .int .u8 0, .int .u8 0, .int .u8 0, .int .u8 0, .int .u8 0, .int .u8 0, .int .u8 0, .int .u8 0, .int .u8 0, .int .u8 0, .int .u8 0] := ⟨.agg #[.int .u8 0, .int .u8 0, .int .u8 0, .int .u8 0, .int .u8 0, .int .u8 0, .int .u8 0, .int .u8 0, .int .u8 0, .int .u8 0, .int .u8 0, .int .u8 0, .int .u8 0, .int .u8 0, .int .u8 0, .int .u8 0, .int .u8 0, .int .u8 0, .int .u8 0, .int .u8 0, .int .u8 0, .int .u8 0, .int .u8 0, .int .u8 0, .int .u8 0, .int .u8 0, .int .u8 0, .int .u8 0, .int .u8 0, .int .u8 0, .int .u8 0, .int .u8 0, .int .u8 0, .int .u8 0, .int .u8 0, .int .u8 0, .int .u8 0, .int .u8 0, .int .u8 0, .int .u8 0, .int .u8 0, .int .u8 0, .int .u8 0, .int .u8 0, .int .u8 0, .int .u8 0, .int .u8 0, .int .u8 0, .int .u8 0, .int .u8 0, .int .u8 0, .int .u8 0, .int .u8 0, .int .u8 0, .int .u8 0, .int .u8 0, .int .u8 0, .int .u8 0, .int .u8 0, .int .u8 0, .int .u8 0, .int .u8 0, .int .u8 0, .int .u8 0, .int .u8 0], by kernel_rfl, rfl⟩
instance : TRow Tryd.prog 243 32 := ⟨⟨_, Tryd.underlying243, rfl⟩, by kernel_rfl⟩
instance : TEl Tryd.prog 243 32 32 (.agg #[.int .u8 0, .int .u8 0, .int .u8 0, .int .u8 0, .int .u8 0, .int .u8 0, .int .u8 0, .int .u8 0, .int .u8 0, .int .u8 0, .int .u8 0, .int .u8 0, .int .u8 0, .int .u8 0, .int .u8 0, .int .u8 0, .int .u8 0, .int .u8 0, .int .u8 0, .int .u8 0, .int .u8 0, .int .u8 0, .int .u8 0, .int .u8 0, .int .u8 0, .int .u8 0, .int .u8 0, .int .u8 0, .int .u8 0, .int .u8 0, .int .u8 0, .int .u8 0]) := ⟨by kernel_rfl, rfl, by decide⟩
instance : TZero Tryd.prog 243 [.int .u8 0, .int .u8 0, .int .u8 0, .int .u8 0, .int .u8 0, .int .u8 0, .int .u8 0, .int .u8 0, .int .u8 0, .int .u8 0, .int .u8 0, .int .u8 0, .int .u8 0, .int .u8 0, .int .u8 0, .int .u8 0, .int .u8 0, .int .u8 0, .int .u8 0, .int .u8 0, .int .u8 0, .int .u8 0, .int .u8 0, .int .u8 0, .int .u8 0, .int .u8 0, .int .u8 0, .int .u8 0, .int .u8 0, .int .u8 0, .int .u8 0, .int .u8 0] := ⟨.agg #[.int .u8 0, .int .u8 0, .int .u8 0, .int .u8 0, .int .u8 0, .int .u8 0, .int .u8 0, .int .u8 0, .int .u8 0, .int .u8 0, .int .u8 0, .int .u8 0, .int .u8 0, .int .u8 0, .int .u8 0, .int .u8 0, .int .u8 0, .int .u8 0, .int .u8 0, .int .u8 0, .int .u8 0, .int .u8 0, .int .u8 0, .int .u8 0, .int .u8 0, .int .u8 0, .int .u8 0, .int .u8 0, .int .u8 0, .int .u8 0, .int .u8 0, .int .u8 0], by kernel_rfl, rfl⟩
instance : TRow Tryd.prog 244 64 := ⟨⟨_, Tryd.underlying244, rfl⟩, by kernel_rfl⟩
instance : TEl Tryd.prog 244 64 64 (.agg #[.int .u8 0, .int .u8 0, .int .u8 0, .int .u8 0, .int .u8 0, .int .u8 0, .int .u8 0, .int .u8 0, .int .u8 0, .int .u8 0, .int .u8 0, .int .u8 0, .int .u8 0, .int .u8 0, .int .u8 0, .int .u8 0, .int .u8 0, .int .u8 0, .int .u8 0, .int .u8 0, .int .u8 0, .int .u8 0, .int .u8 0, .int .u8 0, .int .u8 0, .int .u8 0, .int .u8 0, .int .u8 0, .int .u8 0, .int .u8 0, .int .u8 0, .int .u8 0, .int .u8 0, .int .u8 0, .int .u8 0, .int .u8 0, .int .u8 0, .int .u8 0, .int .u8 0, .int .u8 0, .int .u8 0, .int .u8 0, .int .u8 0, .int .u8 0, .int .u8 0, .int .u8 0, .int .u8 0, .int .u8 0, .int .u8 0, .int .u8 0, .int .u8 0, .int .u8 0, .int .u8 0, .int .u8 0, .int .u8 0, .int .u8 0, .int .u8 0, .int .u8 0, .int .u8 0, .int .u8 0, .int .u8 0, .int .u8 0, .int .u8 0, .int .u8 0]) := ⟨by kernel_rfl, rfl, by decide⟩
instance : TZero Tryd.prog 244 [.int .u8 0, .int .u8 0, .int .u8 0, .int .u8 0, .int .u8 0, .int .u8 0, .int .u8 0, .int .u8 0, .int .u8 0, .int .u8 0, .int .u8 0, .int .u8 0, .int .u8 0, .int .u8 0, .int .u8 0, .int .u8 0, .int .u8 0, .int .u8 0, .int .u8 0, .int .u8 0, .int .u8 0, .int .u8 0, .int .u8 0, .int .u8 0, .int .u8 0, .int .u8 0, .int .u8 0, .int .u8 0, .int .u8 0, .int .u8 0, .int .u8 0, .int .u8 0, .int .u8 0, .int .u8 0, .int .u8 0, .int .u8 0, .int .u8 0, .int .u8 0, .int .u8 0, .int .u8 0, .int .u8 0, .int .u8 0, .int .u8 0, .int .u8 0, .int .u8 0, .int .u8 0, .int .u8 0, .int .u8 0, .int .u8 0, .int .u8 0, .int .u8 0, .int .u8 0, .int .u8 0, .int .u8 0, .int .u8 0, .int .u8 0, .int .u8 0, .int .u8 0, .int .u8 0, .int .u8 0, .int .u8 0, .int .u8 0, .int .u8 0, .int .u8 0] := ⟨.agg #[.int .u8 0, .int .u8 0, .int .u8 0, .int .u8 0, .int .u8 0, .int .u8 0, .int .u8 0, .int .u8 0, .int .u8 0, .int .u8 0, .int .u8 0, .int .u8 0, .int .u8 0, .int .u8 0, .int .u8 0, .int .u8 0, .int .u8 0, .int .u8 0, .int .u8 0, .int .u8 0, .int .u8 0, .int .u8 0, .int .u8 0, .int .u8 0, .int .u8 0, .int .u8 0, .int .u8 0, .int .u8 0, .int .u8 0, .int .u8 0, .int .u8 0, .int .u8 0, .int .u8 0, .int .u8 0, .int .u8 0, .int .u8 0, .int .u8 0, .int .u8 0, .int .u8 0, .int .u8 0, .int .u8 0, .int .u8 0, .int .u8 0, .int .u8 0, .int .u8 0, .int .u8 0, .int .u8 0, .int .u8 0, .int .u8 0, .int .u8 0, .int .u8 0, .int .u8 0, .int .u8 0, .int .u8 0, .int .u8 0, .int .u8 0, .int .u8 0, .int .u8 0, .int .u8 0, .int .u8 0, .int .u8 0, .int .u8 0, .int .u8 0, .int .u8 0], by kernel_rfl, rfl⟩
instance : TRow Tryd.prog 245 4 := ⟨⟨_, Tryd.underlying245, rfl⟩, by kernel_rfl⟩
instance : TFld Tryd.prog 245 0 0 := ⟨_, _, 0, Tryd.underlying245, rfl, rfl, by kernel_rfl⟩
instance : TFld Tryd.prog 245 1 1 := ⟨_, _, 0, Tryd.underlying245, rfl, rfl, by kernel_rfl⟩
instance : TFld Tryd.prog 245 2 2 := ⟨_, _, 0, Tryd.underlying245, rfl, rfl, by kernel_rfl⟩
instance : TFld Tryd.prog 245 3 3 := ⟨_, _, 0, Tryd.underlying245, rfl, rfl, by kernel_rfl⟩
instance : TEl Tryd.prog 245 4 40 (.agg #[.pointer none, .pointer none, .pointer none, .string ⟨#[]⟩]) := ⟨by kernel_rfl, rfl, by decide⟩
instance : TZero Tryd.prog 245 [.pointer none, .pointer none, .pointer none, .string ⟨#[]⟩] := ⟨.agg #[.pointer none, .pointer none, .pointer none, .string ⟨#[]⟩], by kernel_rfl, rfl⟩
instance : TRow Tryd.prog 246 4 := ⟨⟨_, Tryd.underlying246, rfl⟩, by kernel_rfl⟩
instance : TFld Tryd.prog 246 0 0 := ⟨_, _, 0, Tryd.underlying246, rfl, rfl, by kernel_rfl⟩
instance : TFld Tryd.prog 246 1 1 := ⟨_, _, 0, Tryd.underlying246, rfl, rfl, by kernel_rfl⟩
instance : TFld Tryd.prog 246 2 2 := ⟨_, _, 0, Tryd.underlying246, rfl, rfl, by kernel_rfl⟩
instance : TFld Tryd.prog 246 3 3 := ⟨_, _, 0, Tryd.underlying246, rfl, rfl, by kernel_rfl⟩
instance : TEl Tryd.prog 246 4 40 (.agg #[.pointer none, .pointer none, .pointer none, .string ⟨#[]⟩]) := ⟨by kernel_rfl, rfl, by decide⟩
instance : TZero Tryd.prog 246 [.pointer none, .pointer none, .pointer none, .string ⟨#[]⟩] := ⟨.agg #[.pointer none, .pointer none, .pointer none, .string ⟨#[]⟩], by kernel_rfl, rfl⟩
instance : TOne Tryd.prog 250 := ⟨⟨_, Tryd.underlying250, rfl⟩, by kernel_rfl⟩
instance : TEl Tryd.prog 250 1 1 (.int .u8 0) := ⟨by kernel_rfl, rfl, by decide⟩
instance : TZero Tryd.prog 250 [.int .u8 0] := ⟨.int .u8 0, by kernel_rfl, rfl⟩
instance : TOne Tryd.prog 251 := ⟨⟨_, Tryd.underlying251, rfl⟩, by kernel_rfl⟩
instance : TEl Tryd.prog 251 1 1 (.int .u8 0) := ⟨by kernel_rfl, rfl, by decide⟩
instance : TZero Tryd.prog 251 [.int .u8 0] := ⟨.int .u8 0, by kernel_rfl, rfl⟩
instance : TOne Tryd.prog 253 := ⟨⟨_, Tryd.underlying253, rfl⟩, by kernel_rfl⟩
instance : TEl Tryd.prog 253 1 4 (.int .i32 0) := ⟨by kernel_rfl, rfl, by decide⟩
instance : TZero Tryd.prog 253 [.int .i32 0] := ⟨.int .i32 0, by kernel_rfl, rfl⟩
instance : TOne Tryd.prog 254 := ⟨⟨_, Tryd.underlying254, rfl⟩, by kernel_rfl⟩
instance : TEl Tryd.prog 254 1 4 (.int .i32 0) := ⟨by kernel_rfl, rfl, by decide⟩
instance : TZero Tryd.prog 254 [.int .i32 0] := ⟨.int .i32 0, by kernel_rfl, rfl⟩
instance : TRow Tryd.prog 255 11 := ⟨⟨_, Tryd.underlying255, rfl⟩, by kernel_rfl⟩
instance : TFld Tryd.prog 255 0 0 := ⟨_, _, 0, Tryd.underlying255, rfl, rfl, by kernel_rfl⟩
instance : TFld Tryd.prog 255 1 1 := ⟨_, _, 0, Tryd.underlying255, rfl, rfl, by kernel_rfl⟩
instance : TFld Tryd.prog 255 2 2 := ⟨_, _, 0, Tryd.underlying255, rfl, rfl, by kernel_rfl⟩
instance : TFld Tryd.prog 255 3 3 := ⟨_, _, 0, Tryd.underlying255, rfl, rfl, by kernel_rfl⟩
instance : TFld Tryd.prog 255 4 4 := ⟨_, _, 0, Tryd.underlying255, rfl, rfl, by kernel_rfl⟩
instance : TFld Tryd.prog 255 5 5 := ⟨_, _, 0, Tryd.underlying255, rfl, rfl, by kernel_rfl⟩
instance : TFld Tryd.prog 255 6 6 := ⟨_, _, 0, Tryd.underlying255, rfl, rfl, by kernel_rfl⟩
instance : TFld Tryd.prog 255 7 7 := ⟨_, _, 0, Tryd.underlying255, rfl, rfl, by kernel_rfl⟩
instance : TFld Tryd.prog 255 8 8 := ⟨_, _, 0, Tryd.underlying255, rfl, rfl, by kernel_rfl⟩
instance : TFld Tryd.prog 255 9 9 := ⟨_, _, 0, Tryd.underlying255, rfl, rfl, by kernel_rfl⟩
instance : TFld Tryd.prog 255 10 10 := ⟨_, _, 0, Tryd.underlying255, rfl, rfl, by kernel_rfl⟩
instance : TRow Tryd.prog 256 11 := ⟨⟨_, Tryd.underlying256, rfl⟩, by kernel_rfl⟩
instance : TFld Tryd.prog 256 0 0 := ⟨_, _, 0, Tryd.underlying256, rfl, rfl, by kernel_rfl⟩
instance : TFld Tryd.prog 256 1 1 := ⟨_, _, 0, Tryd.underlying256, rfl, rfl, by kernel_rfl⟩
instance : TFld Tryd.prog 256 2 2 := ⟨_, _, 0, Tryd.underlying256, rfl, rfl, by kernel_rfl⟩
instance : TFld Tryd.prog 256 3 3 := ⟨_, _, 0, Tryd.underlying256, rfl, rfl, by kernel_rfl⟩
instance : TFld Tryd.prog 256 4 4 := ⟨_, _, 0, Tryd.underlying256, rfl, rfl, by kernel_rfl⟩
instance : TFld Tryd.prog 256 5 5 := ⟨_, _, 0, Tryd.underlying256, rfl, rfl, by kernel_rfl⟩
instance : TFld Tryd.prog 256 6 6 := ⟨_, _, 0, Tryd.underlying256, rfl, rfl, by kernel_rfl⟩
instance : TFld Tryd.prog 256 7 7 := ⟨_, _, 0, Tryd.underlying256, rfl, rfl, by kernel_rfl⟩
instance : TFld Tryd.prog 256 8 8 := ⟨_, _, 0, Tryd.underlying256, rfl, rfl, by kernel_rfl⟩
instance : TFld Tryd.prog 256 9 9 := ⟨_, _, 0, Tryd.underlying256, rfl, rfl, by kernel_rfl⟩
instance : TFld Tryd.prog 256 10 10 := ⟨_, _, 0, Tryd.underlying256, rfl, rfl, by kernel_rfl⟩
instance : TFun Tryd.prog 3 := ⟨_, Tryd.func3, by kernel_rfl, by kernel_rfl⟩
instance : TFun Tryd.prog 4 := ⟨_, Tryd.func4, by kernel_rfl, by kernel_rfl⟩
instance : TFun Tryd.prog 5 := ⟨_, Tryd.func5, by kernel_rfl, by kernel_rfl⟩
instance : TFun Tryd.prog 6 := ⟨_, Tryd.func6, by kernel_rfl, by kernel_rfl⟩
instance : TFun Tryd.prog 7 := ⟨_, Tryd.func7, by kernel_rfl, by kernel_rfl⟩
instance : TFun Tryd.prog 8 := ⟨_, Tryd.func8, by kernel_rfl, by kernel_rfl⟩
instance : TFun Tryd.prog 9 := ⟨_, Tryd.func9, by kernel_rfl, by kernel_rfl⟩
instance : TFun Tryd.prog 10 := ⟨_, Tryd.func10, by kernel_rfl, by kernel_rfl⟩
instance : TFun Tryd.prog 11 := ⟨_, Tryd.func11, by kernel_rfl, by kernel_rfl⟩
instance : TFun Tryd.prog 12 := ⟨_, Tryd.func12, by kernel_rfl, by kernel_rfl⟩
instance : TFun Tryd.prog 13 := ⟨_, Tryd.func13, by kernel_rfl, by kernel_rfl⟩
instance : TFun Tryd.prog 14 := ⟨_, Tryd.func14, by kernel_rfl, by kernel_rfl⟩
instance : TFun Tryd.prog 15 := ⟨_, Tryd.func15, by kernel_rfl, by kernel_rfl⟩
instance : TFun Tryd.prog 16 := ⟨_, Tryd.func16, by kernel_rfl, by kernel_rfl⟩
instance : TFun Tryd.prog 17 := ⟨_, Tryd.func17, by kernel_rfl, by kernel_rfl⟩
instance : TFun Tryd.prog 18 := ⟨_, Tryd.func18, by kernel_rfl, by kernel_rfl⟩
instance : TFun Tryd.prog 19 := ⟨_, Tryd.func19, by kernel_rfl, by kernel_rfl⟩
instance : TFun Tryd.prog 20 := ⟨_, Tryd.func20, by kernel_rfl, by kernel_rfl⟩
instance : TFun Tryd.prog 21 := ⟨_, Tryd.func21, by kernel_rfl, by kernel_rfl⟩
instance : TFun Tryd.prog 22 := ⟨_, Tryd.func22, by kernel_rfl, by kernel_rfl⟩
instance : TFun Tryd.prog 23 := ⟨_, Tryd.func23, by kernel_rfl, by kernel_rfl⟩
instance : TFun Tryd.prog 24 := ⟨_, Tryd.func24, by kernel_rfl, by kernel_rfl⟩
instance : TFun Tryd.prog 25 := ⟨_, Tryd.func25, by kernel_rfl, by kernel_rfl⟩
instance : TFun Tryd.prog 26 := ⟨_, Tryd.func26, by kernel_rfl, by kernel_rfl⟩
instance : TFun Tryd.prog 27 := ⟨_, Tryd.func27, by kernel_rfl, by kernel_rfl⟩
instance : TFun Tryd.prog 28 := ⟨_, Tryd.func28, by kernel_rfl, by kernel_rfl⟩
instance : TFun Tryd.prog 29 := ⟨_, Tryd.func29, by kernel_rfl, by kernel_rfl⟩
instance : TFun Tryd.prog 30 := ⟨_, Tryd.func30, by kernel_rfl, by kernel_rfl⟩
instance : TFun Tryd.prog 31 := ⟨_, Tryd.func31, by kernel_rfl, by kernel_rfl⟩
instance : TFun Tryd.prog 32 := ⟨_, Tryd.func32, by kernel_rfl, by kernel_rfl⟩
instance : TFun Tryd.prog 33 := ⟨_, Tryd.func33, by kernel_rfl, by kernel_rfl⟩
instance : TFun Tryd.prog 34 := ⟨_, Tryd.func34, by kernel_rfl, by kernel_rfl⟩
instance : TFun Tryd.prog 35 := ⟨_, Tryd.func35, by kernel_rfl, by kernel_rfl⟩
instance : TFun Tryd.prog 36 := ⟨_, Tryd.func36, by kernel_rfl, by kernel_rfl⟩
instance : TFun Tryd.prog 37 := ⟨_, Tryd.func37, by kernel_rfl, by kernel_rfl⟩
instance : TFun Tryd.prog 38 := ⟨_, Tryd.func38, by kernel_rfl, by kernel_rfl⟩
instance : TFun Tryd.prog 39 := ⟨_, Tryd.func39, by kernel_rfl, by kernel_rfl⟩
instance : TFun Tryd.prog 40 := ⟨_, Tryd.func40, by kernel_rfl, by kernel_rfl⟩
instance : TFun Tryd.prog 41 := ⟨_, Tryd.func41, by kernel_rfl, by kernel_rfl⟩
instance : TFun Tryd.prog 42 := ⟨_, Tryd.func42, by kernel_rfl, by kernel_rfl⟩
instance : TFun Tryd.prog 43 := ⟨_, Tryd.func43, by kernel_rfl, by kernel_rfl⟩
instance : TFun Tryd.prog 44 := ⟨_, Tryd.func44, by kernel_rfl, by kernel_rfl⟩
instance : TFun Tryd.prog 45 := ⟨_, Tryd.func45, by kernel_rfl, by kernel_rfl⟩
instance : TFun Tryd.prog 46 := ⟨_, Tryd.func46, by kernel_rfl, by kernel_rfl⟩
instance : TFun Tryd.prog 47 := ⟨_, Tryd.func47, by kernel_rfl, by kernel_rfl⟩
instance : TFun Tryd.prog 48 := ⟨_, Tryd.func48, by kernel_rfl, by kernel_rfl⟩
instance : TFun Tryd.prog 49 := ⟨_, Tryd.func49, by kernel_rfl, by kernel_rfl⟩
instance : TFun Tryd.prog 50 := ⟨_, Tryd.func50, by kernel_rfl, by kernel_rfl⟩
instance : TFun Tryd.prog 51 := ⟨_, Tryd.func51, by kernel_rfl, by kernel_rfl⟩
instance : TFun Tryd.prog 52 := ⟨_, Tryd.func52, by kernel_rfl, by kernel_rfl⟩
instance : TFun Tryd.prog 53 := ⟨_, Tryd.func53, by kernel_rfl, by kernel_rfl⟩
instance : TFun Tryd.prog 54 := ⟨_, Tryd.func54, by kernel_rfl, by kernel_rfl⟩
instance : TFun Tryd.prog 55 := ⟨_, Tryd.func55, by kernel_rfl, by kernel_rfl⟩
instance : TFun Tryd.prog 56 := ⟨_, Tryd.func56, by kernel_rfl, by kernel_rfl⟩
instance : TFun Tryd.prog 57 := ⟨_, Tryd.func57, by kernel_rfl, by kernel_rfl⟩
instance : TFun Tryd.prog 58 := ⟨_, Tryd.func58, by kernel_rfl, by kernel_rfl⟩
instance : TFun Tryd.prog 59 := ⟨_, Tryd.func59, by kernel_rfl, by kernel_rfl⟩
instance : TFun Tryd.prog 60 := ⟨_, Tryd.func60, by kernel_rfl, by kernel_rfl⟩
instance : TFun Tryd.prog 61 := ⟨_, Tryd.func61, by kernel_rfl, by kernel_rfl⟩
instance : TFun Tryd.prog 62 := ⟨_, Tryd.func62, by kernel_rfl, by kernel_rfl⟩
instance : TFun Tryd.prog 63 := ⟨_, Tryd.func63, by kernel_rfl, by kernel_rfl⟩
instance : TFun Tryd.prog 64 := ⟨_, Tryd.func64, by kernel_rfl, by kernel_rfl⟩
instance : TFun Tryd.prog 65 := ⟨_, Tryd.func65, by kernel_rfl, by kernel_rfl⟩
instance : TFun Tryd.prog 66 := ⟨_, Tryd.func66, by kernel_rfl, by kernel_rfl⟩
instance : TFun Tryd.prog 67 := ⟨_, Tryd.func67, by kernel_rfl, by kernel_rfl⟩
instance : TFun Tryd.prog 68 := ⟨_, Tryd.func68, by kernel_rfl, by kernel_rfl⟩
instance : TFun Tryd.prog 69 := ⟨_, Tryd.func69, by kernel_rfl, by kernel_rfl⟩
instance : TFun Tryd.prog 70 := ⟨_, Tryd.func70, by kernel_rfl, by kernel_rfl⟩
instance : TFun Tryd.prog 71 := ⟨_, Tryd.func71, by kernel_rfl, by kernel_rfl⟩
instance : TFun Tryd.prog 72 := ⟨_, Tryd.func72, by kernel_rfl, by kernel_rfl⟩
instance : TFun Tryd.prog 73 := ⟨_, Tryd.func73, by kernel_rfl, by kernel_rfl⟩
instance : TFun Tryd.prog 74 := ⟨_, Tryd.func74, by kernel_rfl, by kernel_rfl⟩
instance : TFun Tryd.prog 75 := ⟨_, Tryd.func75, by kernel_rfl, by kernel_rfl⟩
instance : TFun Tryd.prog 76 := ⟨_, Tryd.func76, by kernel_rfl, by kernel_rfl⟩
instance : TFun Tryd.prog 77 := ⟨_, Tryd.func77, by kernel_rfl, by kernel_rfl⟩
instance : TFun Tryd.prog 78 := ⟨_, Tryd.func78, by kernel_rfl, by kernel_rfl⟩
instance : TFun Tryd.prog 80 := ⟨_, Tryd.func80, by kernel_rfl, by kernel_rfl⟩
instance : TFun Tryd.prog 81 := ⟨_, Tryd.func81, by kernel_rfl, by kernel_rfl⟩
instance : TFun Tryd.prog 82 := ⟨_, Tryd.func82, by kernel_rfl, by kernel_rfl⟩
instance : TFun Tryd.prog 83 := ⟨_, Tryd.func83, by kernel_rfl, by kernel_rfl⟩
instance : TFun Tryd.prog 84 := ⟨_, Tryd.func84, by kernel_rfl, by kernel_rfl⟩
instance : TFun Tryd.prog 85 := ⟨_, Tryd.func85, by kernel_rfl, by kernel_rfl⟩
instance : TFun Tryd.prog 86 := ⟨_, Tryd.func86, by kernel_rfl, by kernel_rfl⟩
instance : TFun Tryd.prog 87 := ⟨_, Tryd.func87, by kernel_rfl, by kernel_rfl⟩
instance : TFun Tryd.prog 88 := ⟨_, Tryd.func88, by kernel_rfl, by kernel_rfl⟩
instance : TFun Tryd.prog 89 := ⟨_, Tryd.func89, by kernel_rfl, by kernel_rfl⟩
instance : TFun Tryd.prog 90 := ⟨_, Tryd.func90, by kernel_rfl, by kernel_rfl⟩
instance : TFun Tryd.prog 91 := ⟨_, Tryd.func91, by kernel_rfl, by kernel_rfl⟩
instance : TFun Tryd.prog 92 := ⟨_, Tryd.func92, by kernel_rfl, by kernel_rfl⟩
instance : TFun Tryd.prog 93 := ⟨_, Tryd.func93, by kernel_rfl, by kernel_rfl⟩
instance : TFun Tryd.prog 94 := ⟨_, Tryd.func94, by kernel_rfl, by kernel_rfl⟩
instance : TFun Tryd.prog 95 := ⟨_, Tryd.func95, by kernel_rfl, by kernel_rfl⟩
instance : TFun Tryd.prog 96 := ⟨_, Tryd.func96, by kernel_rfl, by kernel_rfl⟩
instance : TFun Tryd.prog 97 := ⟨_, Tryd.func97, by kernel_rfl, by kernel_rfl⟩
instance : TFun Tryd.prog 98 := ⟨_, Tryd.func98, by kernel_rfl, by kernel_rfl⟩
instance : TFun Tryd.prog 99 := ⟨_, Tryd.func99, by kernel_rfl, by kernel_rfl⟩
instance : TFun Tryd.prog 100 := ⟨_, Tryd.func100, by kernel_rfl, by kernel_rfl⟩
instance : TFun Tryd.prog 101 := ⟨_, Tryd.func101, by kernel_rfl, by kernel_rfl⟩
instance : TFun Tryd.prog 103 := ⟨_, Tryd.func103, by kernel_rfl, by kernel_rfl⟩
instance : TFun Tryd.prog 104 := ⟨_, Tryd.func104, by kernel_rfl, by kernel_rfl⟩
instance : TFun Tryd.prog 105 := ⟨_, Tryd.func105, by kernel_rfl, by kernel_rfl⟩
instance : TFun Tryd.prog 106 := ⟨_, Tryd.func106, by kernel_rfl, by kernel_rfl⟩
instance : TFun Tryd.prog 107 := ⟨_, Tryd.func107, by kernel_rfl, by kernel_rfl⟩
instance : TFun Tryd.prog 108 := ⟨_, Tryd.func108, by kernel_rfl, by kernel_rfl⟩
instance : TFun Tryd.prog 109 := ⟨_, Tryd.func109, by kernel_rfl, by kernel_rfl⟩
instance : TFun Tryd.prog 110 := ⟨_, Tryd.func110, by kernel_rfl, by kernel_rfl⟩
instance : TFun Tryd.prog 111 := ⟨_, Tryd.func111, by kernel_rfl, by kernel_rfl⟩
instance : TFun Tryd.prog 113 := ⟨_, Tryd.func113, by kernel_rfl, by kernel_rfl⟩
instance : TFun Tryd.prog 114 := ⟨_, Tryd.func114, by kernel_rfl, by kernel_rfl⟩
instance : TFun Tryd.prog 115 := ⟨_, Tryd.func115, by kernel_rfl, by kernel_rfl⟩
instance : TFun Tryd.prog 116 := ⟨_, Tryd.func116, by kernel_rfl, by kernel_rfl⟩
instance : TFun Tryd.prog 117 := ⟨_, Tryd.func117, by kernel_rfl, by kernel_rfl⟩
instance : TFun Tryd.prog 118 := ⟨_, Tryd.func118, by kernel_rfl, by kernel_rfl⟩
instance : TFun Tryd.prog 119 := ⟨_, Tryd.func119, by kernel_rfl, by kernel_rfl⟩
instance : TFun Tryd.prog 120 := ⟨_, Tryd.func120, by kernel_rfl, by kernel_rfl⟩
instance : TFun Tryd.prog 121 := ⟨_, Tryd.func121, by kernel_rfl, by kernel_rfl⟩
instance : TFun Tryd.prog 122 := ⟨_, Tryd.func122, by kernel_rfl, by kernel_rfl⟩
instance : TFun Tryd.prog 123 := ⟨_, Tryd.func123, by kernel_rfl, by kernel_rfl⟩
instance : TFun Tryd.prog 124 := ⟨_, Tryd.func124, by kernel_rfl, by kernel_rfl⟩
instance : TFun Tryd.prog 125 := ⟨_, Tryd.func125, by kernel_rfl, by kernel_rfl⟩
instance : TFun Tryd.prog 126 := ⟨_, Tryd.func126, by kernel_rfl, by kernel_rfl⟩
instance : TFun Tryd.prog 127 := ⟨_, Tryd.func127, by kernel_rfl, by kernel_rfl⟩
instance : TFun Tryd.prog 128 := ⟨_, Tryd.func128, by kernel_rfl, by kernel_rfl⟩
instance : TFun Tryd.prog 129 := ⟨_, Tryd.func129, by kernel_rfl, by kernel_rfl⟩
instance : TFun Tryd.prog 130 := ⟨_, Tryd.func130, by kernel_rfl, by kernel_rfl⟩
instance : TFun Tryd.prog 131 := ⟨_, Tryd.func131, by kernel_rfl, by kernel_rfl⟩
instance : TFun Tryd.prog 132 := ⟨_, Tryd.func132, by kernel_rfl, by kernel_rfl⟩
instance : TFun Tryd.prog 133 := ⟨_, Tryd.func133, by kernel_rfl, by kernel_rfl⟩
instance : TFun Tryd.prog 134 := ⟨_, Tryd.func134, by kernel_rfl, by kernel_rfl⟩
instance : TFun Tryd.prog 135 := ⟨_, Tryd.func135, by kernel_rfl, by kernel_rfl⟩
instance : TFun Tryd.prog 138 := ⟨_, Tryd.func138, by kernel_rfl, by kernel_rfl⟩
instance : TFun Tryd.prog 139 := ⟨_, Tryd.func139, by kernel_rfl, by kernel_rfl⟩
instance : TFun Tryd.prog 140 := ⟨_, Tryd.func140, by kernel_rfl, by kernel_rfl⟩
instance : TFun Tryd.prog 141 := ⟨_, Tryd.func141, by kernel_rfl, by kernel_rfl⟩
instance : TFun Tryd.prog 142 := ⟨_, Tryd.func142, by kernel_rfl, by kernel_rfl⟩
instance : TFun Tryd.prog 144 := ⟨_, Tryd.func144, by kernel_rfl, by kernel_rfl⟩
instance : TFun Tryd.prog 148 := ⟨_, Tryd.func148, by kernel_rfl, by kernel_rfl⟩
instance : TFun Tryd.prog 149 := ⟨_, Tryd.func149, by kernel_rfl, by kernel_rfl⟩
instance : TFun Tryd.prog 150 := ⟨_, Tryd.func150, by kernel_rfl, by kernel_rfl⟩
instance : TFun Tryd.prog 151 := ⟨_, Tryd.func151, by kernel_rfl, by kernel_rfl⟩
instance : TFun Tryd.prog 152 := ⟨_, Tryd.func152, by kernel_rfl, by kernel_rfl⟩
instance : TFun Tryd.prog 156 := ⟨_, Tryd.func156, by kernel_rfl, by kernel_rfl⟩
instance : TFun Tryd.prog 157 := ⟨_, Tryd.func157, by kernel_rfl, by kernel_rfl⟩
instance : TFun Tryd.prog 158 := ⟨_, Tryd.func158, by kernel_rfl, by kernel_rfl⟩
instance : TFun Tryd.prog 164 := ⟨_, Tryd.func164, by kernel_rfl, by kernel_rfl⟩
instance : TFun Tryd.prog 168 := ⟨_, Tryd.func168, by kernel_rfl, by kernel_rfl⟩
instance : TFun Tryd.prog 169 := ⟨_, Tryd.func169, by kernel_rfl, by kernel_rfl⟩
instance : TFun Tryd.prog 173 := ⟨_, Tryd.func173, by kernel_rfl, by kernel_rfl⟩

end Go.Proofs.YthffgbhphjkdeaaDoor
namespace Go.Proofs.YthffgbhphjkdeaaDoor
open Go.RowKit

def inB (n a b : Int) : Bool := decide (a ≤ n ∧ n ≤ b)
theorem inB_true {n a b : Int} (h1 : a ≤ n) (h2 : n ≤ b) : inB n a b = true := by simp [inB, h1, h2]
theorem inB_low {n a b : Int} (h : n < a) : inB n a b = false := by simp [inB]; omega
theorem inB_high {n a b : Int} (h : b < n) : inB n a b = false := by simp [inB]; omega

theorem in_any (n a b : Int) (w : World) : Calls Tryd.prog 62 #[.int .i64 n, .int .i64 a, .int .i64 b] w fun e w' => e = .returned (.bool (inB n a b)) ∧ w = w' := by
  by_cases h1 : a ≤ n
  · by_cases h2 : n ≤ b
    · rw [inB_true h1 h2]
      go_enter Tryd.func62, Tryd.ntmps62
      go_wp2
      go_ret
      exact ⟨rfl, rfl⟩
    · rw [inB_high (by omega)]
      go_enter Tryd.func62, Tryd.ntmps62
      go_wp2
      go_ret
      exact ⟨rfl, rfl⟩
  · rw [inB_low (by omega)]
    go_enter Tryd.func62, Tryd.ntmps62
    go_wp2
    go_ret
    exact ⟨rfl, rfl⟩

theorem l01In_any (n a b : Int) (w : World) : Calls Tryd.prog 55 #[.int .i64 n, .int .i64 a, .int .i64 b] w fun e w' => e = .returned (.bool (inB n a b)) ∧ w = w' := by
  by_cases h1 : a ≤ n
  · by_cases h2 : n ≤ b
    · rw [inB_true h1 h2]
      go_enter Tryd.func55, Tryd.ntmps55
      go_wp2
      go_ret
      exact ⟨rfl, rfl⟩
    · rw [inB_high (by omega)]
      go_enter Tryd.func55, Tryd.ntmps55
      go_wp2
      go_ret
      exact ⟨rfl, rfl⟩
  · rw [inB_low (by omega)]
    go_enter Tryd.func55, Tryd.ntmps55
    go_wp2
    go_ret
    exact ⟨rfl, rfl⟩

end Go.Proofs.YthffgbhphjkdeaaDoor
namespace Go.Proofs.YthffgbhphjkdeaaDoor

structure Space where
  mode : Int
  n : Int
  deriving DecidableEq, Inhabited
def Space.cells (s : Space) : List Value := [.int .i64 s.mode, .int .i64 s.n]

structure Asked where
  node : Int
  wide : Space
  high : Space
  rtl : Bool
  deriving DecidableEq, Inhabited
def Asked.cells (x : Asked) : List Value := [.int .i64 x.node, .int .i64 x.wide.mode, .int .i64 x.wide.n, .int .i64 x.high.mode, .int .i64 x.high.n, .bool x.rtl]

structure Rule where
  room : Int
  wide : Int
  high : Int
  deriving DecidableEq, Inhabited
def Rule.cells (x : Rule) : List Value := [.int .i64 x.room, .int .i64 x.wide, .int .i64 x.high]

structure Val where
  kind : Int
  n : Int
  deriving DecidableEq, Inhabited
def Val.cells (x : Val) : List Value := [.int .i64 x.kind, .int .i64 x.n]

structure ActD where
  kind : Int
  n : Int
  kid : Int
  pl : Int
  key : ByteArray
  value : Val
  table : List Rule
  wide : Int
  high : Int
  rtl : Bool
/-- An action's cells: the table is a slice. -/
def repAct (R : Nat → Prop) (w : World) (cs : List Value) (x : ActD) : Prop :=
  ∃ a c, cs = [.int .i64 x.kind, .int .i64 x.n, .int .i64 x.kid, .int .i64 x.pl, .string x.key, .int .i64 x.value.kind, .int .i64 x.value.n, .slice a x.table.length c, .int .i64 x.wide, .int .i64 x.high, .bool x.rtl] ∧ SliceAt (Flat Rule.cells) 3 R w a x.table
theorem repAct.mod {R S : Nat → Prop} {w w' : World} {cs : List Value} {x : ActD} (h : repAct R w cs x) (hm : Mod S w w') (hs : ∀ k, R k → ¬ S k) : repAct R w' cs x := by
  obtain ⟨a, c, h1, h2⟩ := h
  exact ⟨a, c, h1, h2.flatMod hm hs⟩

structure Frame where
  node : Int
  x : Int
  y : Int
  wide : Int
  high : Int
  deriving DecidableEq, Inhabited
def Frame.cells (f : Frame) : List Value := [.int .i64 f.node, .int .i64 f.x, .int .i64 f.y, .int .i64 f.wide, .int .i64 f.high]
structure Memo where
  node : Int
  wide : Space
  high : Space
  rtl : Bool
  bw : Int
  bh : Int
  bb : Int
  frames : List Frame
  deriving DecidableEq, Inhabited

end Go.Proofs.YthffgbhphjkdeaaDoor
namespace Go.Proofs.YthffgbhphjkdeaaDoor
open Go.RowKit

theorem toValue_any (x : Val) (w : World) : Calls Tryd.prog 16 #[.agg #[.int .i64 x.kind, .int .i64 x.n]] w fun e w' => e = .returned (.agg #[.int .i64 x.kind, .int .i64 x.n]) ∧ Mod (fun _ => False) w w' := by
  go_enter Tryd.func16, Tryd.ntmps16
  go_wp2
  refine bodyPost_ret (v := .agg #[.int .i64 x.kind, .int .i64 x.n]) (by simp [results, Tryd.results16, go_sem]) rfl ⟨rfl, by (repeat (first | with_reducible exact Mod.refl _ _ | with_reducible refine Mod.drewN ?_ _ | with_reducible refine Mod.drew ?_ | with_reducible refine Mod.alloc ?_ _ | ((with_reducible refine Mod.setNew ?_ ?_ _ _ _); (rotate_left; omega)) | with_reducible refine Mod.setAt ?_ _ _ _ ))⟩

set_option maxHeartbeats 1000000 in
theorem eqValue_any (x y : Val) (w : World) : Calls Tryd.prog 66 #[.agg #[.int .i64 x.kind, .int .i64 x.n], .agg #[.int .i64 y.kind, .int .i64 y.n]] w fun e w' => e = .returned (.bool (decide (x = y))) ∧ Mod (fun _ => False) w w' := by
  obtain ⟨x0, x1⟩ := x
  obtain ⟨y0, y1⟩ := y
  go_enter Tryd.func66, Tryd.ntmps66
  go_wp2
  all_goals
    go_ret
    refine ⟨ret_bool ?_, by (repeat (first | with_reducible exact Mod.refl _ _ | with_reducible refine Mod.drewN ?_ _ | with_reducible refine Mod.drew ?_ | with_reducible refine Mod.alloc ?_ _ | ((with_reducible refine Mod.setNew ?_ ?_ _ _ _); (rotate_left; omega)) | with_reducible refine Mod.setAt ?_ _ _ _ ))⟩
    simp_all

end Go.Proofs.YthffgbhphjkdeaaDoor
namespace Go.Proofs.YthffgbhphjkdeaaDoor
open Go.RowKit

theorem al2a (w : World) (A B : Obj) : ((w.alloc A).alloc B).heap[w.heap.size]? = some A := heap_alloc_keep (heap_alloc_new w A)
theorem al2b (w : World) (A B : Obj) : ((w.alloc A).alloc B).heap[w.heap.size + 1]? = some B := by
  have h := heap_alloc_new (w.alloc A) B
  rwa [World.size_alloc] at h
theorem al3a (w : World) (A B C : Obj) : (((w.alloc A).alloc B).alloc C).heap[w.heap.size]? = some A := heap_alloc_keep (heap_alloc_keep (heap_alloc_new w A))
theorem al3b (w : World) (A B C : Obj) : (((w.alloc A).alloc B).alloc C).heap[w.heap.size + 1]? = some B := by
  have h := heap_alloc_new (w.alloc A) B
  rw [World.size_alloc] at h
  exact heap_alloc_keep h
theorem al3c (w : World) (A B C : Obj) : (((w.alloc A).alloc B).alloc C).heap[w.heap.size + 1 + 1]? = some C := by
  have h := heap_alloc_new ((w.alloc A).alloc B) C
  rwa [World.size_alloc, World.size_alloc] at h
theorem set_in {w : World} {b j : Nat} {l : List Value} {T : TypeId} {fr : Nat × Nat} {v : Value} (h : w.heap[b]? = some (.cells l.toArray T fr)) : (w.setCell ⟨b, j, none⟩ v).heap[b]? = some (.cells (l.set j v).toArray T fr) := by
  simp [World.setCell, Array.getElem?_modify, h]

structure Sides where
  left : Val
  top : Val
  right : Val
  bottom : Val
  start : Val
  stop : Val
  deriving DecidableEq, Inhabited
def Sides.cells (x : Sides) : List Value := [.int .i64 x.left.kind, .int .i64 x.left.n, .int .i64 x.top.kind, .int .i64 x.top.n, .int .i64 x.right.kind, .int .i64 x.right.n, .int .i64 x.bottom.kind, .int .i64 x.bottom.n, .int .i64 x.start.kind, .int .i64 x.start.n, .int .i64 x.stop.kind, .int .i64 x.stop.n]

set_option maxRecDepth 100000 in
set_option maxHeartbeats 8000000 in
theorem toSides_any (x : Sides) (w : World) : Calls Tryd.prog 46 #[.agg #[.int .i64 x.left.kind, .int .i64 x.left.n, .int .i64 x.top.kind, .int .i64 x.top.n, .int .i64 x.right.kind, .int .i64 x.right.n, .int .i64 x.bottom.kind, .int .i64 x.bottom.n, .int .i64 x.start.kind, .int .i64 x.start.n, .int .i64 x.stop.kind, .int .i64 x.stop.n]] w fun e w' => e = .returned (.agg #[.int .i64 x.left.kind, .int .i64 x.left.n, .int .i64 x.top.kind, .int .i64 x.top.n, .int .i64 x.right.kind, .int .i64 x.right.n, .int .i64 x.bottom.kind, .int .i64 x.bottom.n, .int .i64 x.start.kind, .int .i64 x.start.n, .int .i64 x.stop.kind, .int .i64 x.stop.n]) ∧ Mod (fun _ => False) w w' := by
  go_enter Tryd.func46, Tryd.ntmps46
  go_wp2_with fail
  refine (toValue_any x.left _).mono ?_
  rintro e w1 ⟨rfl, hm1⟩
  have hM1 : Mod (fun _ => False) w w1 := by (repeat (first | with_reducible exact Mod.refl _ _ | with_reducible refine Mod.drewN ?_ _ | with_reducible refine Mod.drew ?_ | with_reducible refine Mod.alloc ?_ _ | ((with_reducible refine Mod.setNew ?_ ?_ _ _ _); (rotate_left; omega)) | with_reducible refine Mod.setAt ?_ _ _ _ | with_reducible exact hm1 | with_reducible refine Mod.thenNone ?_ hm1 ))
  have hS1 := hm1.blk (al3a _ _ _ _) (fun f => f)
  have hR1 := hm1.blk (al3b _ _ _ _) (fun f => f)
  have hD1 := hm1.blk (al3c _ _ _ _) (fun f => f)
  have c1_2 := blk_cell hS1 (j := 2) rfl
  have c1_3 := blk_cell hS1 (j := 3) rfl
  have d1_0 := blk_cell hD1 (j := 0) rfl
  have d1_1 := blk_cell hD1 (j := 1) rfl
  have z1_0 := blk_free hD1 0
  have z1_1 := blk_free hD1 1
  have hr1_0 : w.heap.size < w1.heap.size := (Array.getElem?_eq_some_iff.1 hS1).1
  have hr1_1 : w.heap.size + 1 < w1.heap.size := (Array.getElem?_eq_some_iff.1 hR1).1
  have hr1_2 : w.heap.size + 1 + 1 < w1.heap.size := (Array.getElem?_eq_some_iff.1 hD1).1
  clear hm1
  go_wp2_with fail
  refine (toValue_any x.top _).mono ?_
  rintro e w2 ⟨rfl, hm2⟩
  have hM2 : Mod (fun _ => False) w w2 := by (repeat (first | with_reducible exact Mod.refl _ _ | with_reducible refine Mod.drewN ?_ _ | with_reducible refine Mod.drew ?_ | with_reducible refine Mod.alloc ?_ _ | ((with_reducible refine Mod.setNew ?_ ?_ _ _ _); (rotate_left; omega)) | with_reducible refine Mod.setAt ?_ _ _ _ | with_reducible exact hm2 | with_reducible refine Mod.thenNone ?_ hm2 | with_reducible exact hM1 | with_reducible refine Mod.thenNone ?_ hM1 ))
  have hS2 := hm2.blk (set_far (set_far hS1 (by omega)) (by omega)) (fun f => f)
  have hR2 := hm2.blk (set_far (set_far hR1 (by omega)) (by omega)) (fun f => f)
  have hD2 : w2.heap[w.heap.size + 1 + 1]? = some (.cells #[.int .i64 x.left.kind, .int .i64 x.left.n, .int .i64 0, .int .i64 0, .int .i64 0, .int .i64 0, .int .i64 0, .int .i64 0, .int .i64 0, .int .i64 0, .int .i64 0, .int .i64 0] 34 (0, 0)) := hm2.blk (set_in (set_in hD1)) (fun f => f)
  have c2_4 := blk_cell hS2 (j := 4) rfl
  have c2_5 := blk_cell hS2 (j := 5) rfl
  have d2_2 := blk_cell hD2 (j := 2) rfl
  have d2_3 := blk_cell hD2 (j := 3) rfl
  have z2_2 := blk_free hD2 2
  have z2_3 := blk_free hD2 3
  have hr2_0 : w.heap.size < w2.heap.size := (Array.getElem?_eq_some_iff.1 hS2).1
  have hr2_1 : w.heap.size + 1 < w2.heap.size := (Array.getElem?_eq_some_iff.1 hR2).1
  have hr2_2 : w.heap.size + 1 + 1 < w2.heap.size := (Array.getElem?_eq_some_iff.1 hD2).1
  clear hm2 hS1 hR1 hD1 hM1 hr1_0 hr1_1 hr1_2 c1_2 c1_3 d1_0 z1_0 d1_1 z1_1
  go_wp2_with fail
  refine (toValue_any x.right _).mono ?_
  rintro e w3 ⟨rfl, hm3⟩
  have hM3 : Mod (fun _ => False) w w3 := by (repeat (first | with_reducible exact Mod.refl _ _ | with_reducible refine Mod.drewN ?_ _ | with_reducible refine Mod.drew ?_ | with_reducible refine Mod.alloc ?_ _ | ((with_reducible refine Mod.setNew ?_ ?_ _ _ _); (rotate_left; omega)) | with_reducible refine Mod.setAt ?_ _ _ _ | with_reducible exact hm3 | with_reducible refine Mod.thenNone ?_ hm3 | with_reducible exact hM2 | with_reducible refine Mod.thenNone ?_ hM2 ))
  have hS3 := hm3.blk (set_far (set_far hS2 (by omega)) (by omega)) (fun f => f)
  have hR3 := hm3.blk (set_far (set_far hR2 (by omega)) (by omega)) (fun f => f)
  have hD3 : w3.heap[w.heap.size + 1 + 1]? = some (.cells #[.int .i64 x.left.kind, .int .i64 x.left.n, .int .i64 x.top.kind, .int .i64 x.top.n, .int .i64 0, .int .i64 0, .int .i64 0, .int .i64 0, .int .i64 0, .int .i64 0, .int .i64 0, .int .i64 0] 34 (0, 0)) := hm3.blk (set_in (set_in hD2)) (fun f => f)
  have c3_6 := blk_cell hS3 (j := 6) rfl
  have c3_7 := blk_cell hS3 (j := 7) rfl
  have d3_4 := blk_cell hD3 (j := 4) rfl
  have d3_5 := blk_cell hD3 (j := 5) rfl
  have z3_4 := blk_free hD3 4
  have z3_5 := blk_free hD3 5
  have hr3_0 : w.heap.size < w3.heap.size := (Array.getElem?_eq_some_iff.1 hS3).1
  have hr3_1 : w.heap.size + 1 < w3.heap.size := (Array.getElem?_eq_some_iff.1 hR3).1
  have hr3_2 : w.heap.size + 1 + 1 < w3.heap.size := (Array.getElem?_eq_some_iff.1 hD3).1
  clear hm3 hS2 hR2 hD2 hM2 hr2_0 hr2_1 hr2_2 c2_4 c2_5 d2_2 z2_2 d2_3 z2_3
  go_wp2_with fail
  refine (toValue_any x.bottom _).mono ?_
  rintro e w4 ⟨rfl, hm4⟩
  have hM4 : Mod (fun _ => False) w w4 := by (repeat (first | with_reducible exact Mod.refl _ _ | with_reducible refine Mod.drewN ?_ _ | with_reducible refine Mod.drew ?_ | with_reducible refine Mod.alloc ?_ _ | ((with_reducible refine Mod.setNew ?_ ?_ _ _ _); (rotate_left; omega)) | with_reducible refine Mod.setAt ?_ _ _ _ | with_reducible exact hm4 | with_reducible refine Mod.thenNone ?_ hm4 | with_reducible exact hM3 | with_reducible refine Mod.thenNone ?_ hM3 ))
  have hS4 := hm4.blk (set_far (set_far hS3 (by omega)) (by omega)) (fun f => f)
  have hR4 := hm4.blk (set_far (set_far hR3 (by omega)) (by omega)) (fun f => f)
  have hD4 : w4.heap[w.heap.size + 1 + 1]? = some (.cells #[.int .i64 x.left.kind, .int .i64 x.left.n, .int .i64 x.top.kind, .int .i64 x.top.n, .int .i64 x.right.kind, .int .i64 x.right.n, .int .i64 0, .int .i64 0, .int .i64 0, .int .i64 0, .int .i64 0, .int .i64 0] 34 (0, 0)) := hm4.blk (set_in (set_in hD3)) (fun f => f)
  have c4_8 := blk_cell hS4 (j := 8) rfl
  have c4_9 := blk_cell hS4 (j := 9) rfl
  have d4_6 := blk_cell hD4 (j := 6) rfl
  have d4_7 := blk_cell hD4 (j := 7) rfl
  have z4_6 := blk_free hD4 6
  have z4_7 := blk_free hD4 7
  have hr4_0 : w.heap.size < w4.heap.size := (Array.getElem?_eq_some_iff.1 hS4).1
  have hr4_1 : w.heap.size + 1 < w4.heap.size := (Array.getElem?_eq_some_iff.1 hR4).1
  have hr4_2 : w.heap.size + 1 + 1 < w4.heap.size := (Array.getElem?_eq_some_iff.1 hD4).1
  clear hm4 hS3 hR3 hD3 hM3 hr3_0 hr3_1 hr3_2 c3_6 c3_7 d3_4 z3_4 d3_5 z3_5
  go_wp2_with fail
  refine (toValue_any x.start _).mono ?_
  rintro e w5 ⟨rfl, hm5⟩
  have hM5 : Mod (fun _ => False) w w5 := by (repeat (first | with_reducible exact Mod.refl _ _ | with_reducible refine Mod.drewN ?_ _ | with_reducible refine Mod.drew ?_ | with_reducible refine Mod.alloc ?_ _ | ((with_reducible refine Mod.setNew ?_ ?_ _ _ _); (rotate_left; omega)) | with_reducible refine Mod.setAt ?_ _ _ _ | with_reducible exact hm5 | with_reducible refine Mod.thenNone ?_ hm5 | with_reducible exact hM4 | with_reducible refine Mod.thenNone ?_ hM4 ))
  have hS5 := hm5.blk (set_far (set_far hS4 (by omega)) (by omega)) (fun f => f)
  have hR5 := hm5.blk (set_far (set_far hR4 (by omega)) (by omega)) (fun f => f)
  have hD5 : w5.heap[w.heap.size + 1 + 1]? = some (.cells #[.int .i64 x.left.kind, .int .i64 x.left.n, .int .i64 x.top.kind, .int .i64 x.top.n, .int .i64 x.right.kind, .int .i64 x.right.n, .int .i64 x.bottom.kind, .int .i64 x.bottom.n, .int .i64 0, .int .i64 0, .int .i64 0, .int .i64 0] 34 (0, 0)) := hm5.blk (set_in (set_in hD4)) (fun f => f)
  have c5_10 := blk_cell hS5 (j := 10) rfl
  have c5_11 := blk_cell hS5 (j := 11) rfl
  have d5_8 := blk_cell hD5 (j := 8) rfl
  have d5_9 := blk_cell hD5 (j := 9) rfl
  have z5_8 := blk_free hD5 8
  have z5_9 := blk_free hD5 9
  have hr5_0 : w.heap.size < w5.heap.size := (Array.getElem?_eq_some_iff.1 hS5).1
  have hr5_1 : w.heap.size + 1 < w5.heap.size := (Array.getElem?_eq_some_iff.1 hR5).1
  have hr5_2 : w.heap.size + 1 + 1 < w5.heap.size := (Array.getElem?_eq_some_iff.1 hD5).1
  clear hm5 hS4 hR4 hD4 hM4 hr4_0 hr4_1 hr4_2 c4_8 c4_9 d4_6 z4_6 d4_7 z4_7
  go_wp2_with fail
  refine (toValue_any x.stop _).mono ?_
  rintro e w6 ⟨rfl, hm6⟩
  have hM6 : Mod (fun _ => False) w w6 := by (repeat (first | with_reducible exact Mod.refl _ _ | with_reducible refine Mod.drewN ?_ _ | with_reducible refine Mod.drew ?_ | with_reducible refine Mod.alloc ?_ _ | ((with_reducible refine Mod.setNew ?_ ?_ _ _ _); (rotate_left; omega)) | with_reducible refine Mod.setAt ?_ _ _ _ | with_reducible exact hm6 | with_reducible refine Mod.thenNone ?_ hm6 | with_reducible exact hM5 | with_reducible refine Mod.thenNone ?_ hM5 ))
  have hS6 := hm6.blk (set_far (set_far hS5 (by omega)) (by omega)) (fun f => f)
  have hR6 := hm6.blk (set_far (set_far hR5 (by omega)) (by omega)) (fun f => f)
  have hD6 : w6.heap[w.heap.size + 1 + 1]? = some (.cells #[.int .i64 x.left.kind, .int .i64 x.left.n, .int .i64 x.top.kind, .int .i64 x.top.n, .int .i64 x.right.kind, .int .i64 x.right.n, .int .i64 x.bottom.kind, .int .i64 x.bottom.n, .int .i64 x.start.kind, .int .i64 x.start.n, .int .i64 0, .int .i64 0] 34 (0, 0)) := hm6.blk (set_in (set_in hD5)) (fun f => f)
  have d6_0 := blk_cell hD6 (j := 0) rfl
  have d6_1 := blk_cell hD6 (j := 1) rfl
  have d6_2 := blk_cell hD6 (j := 2) rfl
  have d6_3 := blk_cell hD6 (j := 3) rfl
  have d6_4 := blk_cell hD6 (j := 4) rfl
  have d6_5 := blk_cell hD6 (j := 5) rfl
  have d6_6 := blk_cell hD6 (j := 6) rfl
  have d6_7 := blk_cell hD6 (j := 7) rfl
  have d6_8 := blk_cell hD6 (j := 8) rfl
  have d6_9 := blk_cell hD6 (j := 9) rfl
  have d6_10 := blk_cell hD6 (j := 10) rfl
  have d6_11 := blk_cell hD6 (j := 11) rfl
  have z6_10 := blk_free hD6 10
  have z6_11 := blk_free hD6 11
  have r6_0 := blk_cell hR6 (j := 0) rfl
  have y6_0 := blk_free hR6 0
  have r6_1 := blk_cell hR6 (j := 1) rfl
  have y6_1 := blk_free hR6 1
  have r6_2 := blk_cell hR6 (j := 2) rfl
  have y6_2 := blk_free hR6 2
  have r6_3 := blk_cell hR6 (j := 3) rfl
  have y6_3 := blk_free hR6 3
  have r6_4 := blk_cell hR6 (j := 4) rfl
  have y6_4 := blk_free hR6 4
  have r6_5 := blk_cell hR6 (j := 5) rfl
  have y6_5 := blk_free hR6 5
  have r6_6 := blk_cell hR6 (j := 6) rfl
  have y6_6 := blk_free hR6 6
  have r6_7 := blk_cell hR6 (j := 7) rfl
  have y6_7 := blk_free hR6 7
  have r6_8 := blk_cell hR6 (j := 8) rfl
  have y6_8 := blk_free hR6 8
  have r6_9 := blk_cell hR6 (j := 9) rfl
  have y6_9 := blk_free hR6 9
  have r6_10 := blk_cell hR6 (j := 10) rfl
  have y6_10 := blk_free hR6 10
  have r6_11 := blk_cell hR6 (j := 11) rfl
  have y6_11 := blk_free hR6 11
  have hr6_0 : w.heap.size < w6.heap.size := (Array.getElem?_eq_some_iff.1 hS6).1
  have hr6_1 : w.heap.size + 1 < w6.heap.size := (Array.getElem?_eq_some_iff.1 hR6).1
  have hr6_2 : w.heap.size + 1 + 1 < w6.heap.size := (Array.getElem?_eq_some_iff.1 hD6).1
  clear hm6 hS5 hR5 hD5 hM5 hr5_0 hr5_1 hr5_2 c5_10 c5_11 d5_8 z5_8 d5_9 z5_9
  clear hS6 hR6 hD6
  go_wp2
  refine bodyPost_ret (v := .agg #[.int .i64 x.left.kind, .int .i64 x.left.n, .int .i64 x.top.kind, .int .i64 x.top.n, .int .i64 x.right.kind, .int .i64 x.right.n, .int .i64 x.bottom.kind, .int .i64 x.bottom.n, .int .i64 x.start.kind, .int .i64 x.start.n, .int .i64 x.stop.kind, .int .i64 x.stop.n]) ?_ rfl ⟨rfl, ?_⟩
  · simp [results, Tryd.results46, go_sem, *]
  · (repeat (first | with_reducible exact Mod.refl _ _ | with_reducible refine Mod.drewN ?_ _ | with_reducible refine Mod.drew ?_ | with_reducible refine Mod.alloc ?_ _ | ((with_reducible refine Mod.setNew ?_ ?_ _ _ _); (rotate_left; omega)) | with_reducible refine Mod.setAt ?_ _ _ _ | with_reducible exact hM6 | with_reducible refine Mod.thenNone ?_ hM6 ))

set_option maxRecDepth 100000 in
set_option maxHeartbeats 8000000 in
theorem eqSides_same (x : Sides) (w : World) : Calls Tryd.prog 67 #[.agg #[.int .i64 x.left.kind, .int .i64 x.left.n, .int .i64 x.top.kind, .int .i64 x.top.n, .int .i64 x.right.kind, .int .i64 x.right.n, .int .i64 x.bottom.kind, .int .i64 x.bottom.n, .int .i64 x.start.kind, .int .i64 x.start.n, .int .i64 x.stop.kind, .int .i64 x.stop.n], .agg #[.int .i64 x.left.kind, .int .i64 x.left.n, .int .i64 x.top.kind, .int .i64 x.top.n, .int .i64 x.right.kind, .int .i64 x.right.n, .int .i64 x.bottom.kind, .int .i64 x.bottom.n, .int .i64 x.start.kind, .int .i64 x.start.n, .int .i64 x.stop.kind, .int .i64 x.stop.n]] w fun e w' => e = .returned (.bool true) ∧ Mod (fun _ => False) w w' := by
  go_enter Tryd.func67, Tryd.ntmps67
  go_wp2_with fail
  refine (eqValue_any x.left x.left _).mono ?_
  rintro e w1 ⟨rfl, hm1⟩
  rw [decide_eq_true rfl]
  have hM1 : Mod (fun _ => False) w w1 := by (repeat (first | with_reducible exact Mod.refl _ _ | with_reducible refine Mod.drewN ?_ _ | with_reducible refine Mod.drew ?_ | with_reducible refine Mod.alloc ?_ _ | ((with_reducible refine Mod.setNew ?_ ?_ _ _ _); (rotate_left; omega)) | with_reducible refine Mod.setAt ?_ _ _ _ | with_reducible exact hm1 | with_reducible refine Mod.thenNone ?_ hm1 ))
  have hA1 := hm1.blk (al2a _ _ _) (fun f => f)
  have hB1 := hm1.blk (al2b _ _ _) (fun f => f)
  have c1_2 := blk_cell hA1 (j := 2) rfl
  have d1_2 := blk_cell hB1 (j := 2) rfl
  have c1_3 := blk_cell hA1 (j := 3) rfl
  have d1_3 := blk_cell hB1 (j := 3) rfl
  have hr1_0 : w.heap.size < w1.heap.size := (Array.getElem?_eq_some_iff.1 hA1).1
  have hr1_1 : w.heap.size + 1 < w1.heap.size := (Array.getElem?_eq_some_iff.1 hB1).1
  clear hm1
  go_wp2_with fail
  refine (eqValue_any x.top x.top _).mono ?_
  rintro e w2 ⟨rfl, hm2⟩
  rw [decide_eq_true rfl]
  have hM2 : Mod (fun _ => False) w w2 := hM1.thenNone hm2
  have hA2 := hm2.blk hA1 (fun f => f)
  have hB2 := hm2.blk hB1 (fun f => f)
  have c2_4 := blk_cell hA2 (j := 4) rfl
  have d2_4 := blk_cell hB2 (j := 4) rfl
  have c2_5 := blk_cell hA2 (j := 5) rfl
  have d2_5 := blk_cell hB2 (j := 5) rfl
  have hr2_0 : w.heap.size < w2.heap.size := (Array.getElem?_eq_some_iff.1 hA2).1
  have hr2_1 : w.heap.size + 1 < w2.heap.size := (Array.getElem?_eq_some_iff.1 hB2).1
  clear hm2 hA1 hB1 hM1 hr1_0 hr1_1 c1_2 d1_2 c1_3 d1_3
  go_wp2_with fail
  refine (eqValue_any x.right x.right _).mono ?_
  rintro e w3 ⟨rfl, hm3⟩
  rw [decide_eq_true rfl]
  have hM3 : Mod (fun _ => False) w w3 := hM2.thenNone hm3
  have hA3 := hm3.blk hA2 (fun f => f)
  have hB3 := hm3.blk hB2 (fun f => f)
  have c3_6 := blk_cell hA3 (j := 6) rfl
  have d3_6 := blk_cell hB3 (j := 6) rfl
  have c3_7 := blk_cell hA3 (j := 7) rfl
  have d3_7 := blk_cell hB3 (j := 7) rfl
  have hr3_0 : w.heap.size < w3.heap.size := (Array.getElem?_eq_some_iff.1 hA3).1
  have hr3_1 : w.heap.size + 1 < w3.heap.size := (Array.getElem?_eq_some_iff.1 hB3).1
  clear hm3 hA2 hB2 hM2 hr2_0 hr2_1 c2_4 d2_4 c2_5 d2_5
  go_wp2_with fail
  refine (eqValue_any x.bottom x.bottom _).mono ?_
  rintro e w4 ⟨rfl, hm4⟩
  rw [decide_eq_true rfl]
  have hM4 : Mod (fun _ => False) w w4 := hM3.thenNone hm4
  have hA4 := hm4.blk hA3 (fun f => f)
  have hB4 := hm4.blk hB3 (fun f => f)
  have c4_8 := blk_cell hA4 (j := 8) rfl
  have d4_8 := blk_cell hB4 (j := 8) rfl
  have c4_9 := blk_cell hA4 (j := 9) rfl
  have d4_9 := blk_cell hB4 (j := 9) rfl
  have hr4_0 : w.heap.size < w4.heap.size := (Array.getElem?_eq_some_iff.1 hA4).1
  have hr4_1 : w.heap.size + 1 < w4.heap.size := (Array.getElem?_eq_some_iff.1 hB4).1
  clear hm4 hA3 hB3 hM3 hr3_0 hr3_1 c3_6 d3_6 c3_7 d3_7
  go_wp2_with fail
  refine (eqValue_any x.start x.start _).mono ?_
  rintro e w5 ⟨rfl, hm5⟩
  rw [decide_eq_true rfl]
  have hM5 : Mod (fun _ => False) w w5 := hM4.thenNone hm5
  have hA5 := hm5.blk hA4 (fun f => f)
  have hB5 := hm5.blk hB4 (fun f => f)
  have c5_10 := blk_cell hA5 (j := 10) rfl
  have d5_10 := blk_cell hB5 (j := 10) rfl
  have c5_11 := blk_cell hA5 (j := 11) rfl
  have d5_11 := blk_cell hB5 (j := 11) rfl
  have hr5_0 : w.heap.size < w5.heap.size := (Array.getElem?_eq_some_iff.1 hA5).1
  have hr5_1 : w.heap.size + 1 < w5.heap.size := (Array.getElem?_eq_some_iff.1 hB5).1
  clear hm5 hA4 hB4 hM4 hr4_0 hr4_1 c4_8 d4_8 c4_9 d4_9
  go_wp2_with fail
  refine (eqValue_any x.stop x.stop _).mono ?_
  rintro e w6 ⟨rfl, hm6⟩
  rw [decide_eq_true rfl]
  have hM6 : Mod (fun _ => False) w w6 := hM5.thenNone hm6
  have hA6 := hm6.blk hA5 (fun f => f)
  have hB6 := hm6.blk hB5 (fun f => f)
  have hr6_0 : w.heap.size < w6.heap.size := (Array.getElem?_eq_some_iff.1 hA6).1
  have hr6_1 : w.heap.size + 1 < w6.heap.size := (Array.getElem?_eq_some_iff.1 hB6).1
  clear hm6 hA5 hB5 hM5 hr5_0 hr5_1 c5_10 d5_10 c5_11 d5_11
  clear hA6 hB6
  go_wp2
  go_ret
  exact ⟨rfl, hM6⟩

structure Edges where
  left : Int
  top : Int
  right : Int
  bottom : Int
  deriving DecidableEq, Inhabited
def Edges.cells (x : Edges) : List Value := [.int .i64 x.left, .int .i64 x.top, .int .i64 x.right, .int .i64 x.bottom]

set_option maxRecDepth 100000 in
set_option maxHeartbeats 8000000 in
theorem toEdges_any (x : Edges) (w : World) : Calls Tryd.prog 47 #[.agg #[.int .i64 x.left, .int .i64 x.top, .int .i64 x.right, .int .i64 x.bottom]] w fun e w' => e = .returned (.agg #[.int .i64 x.left, .int .i64 x.top, .int .i64 x.right, .int .i64 x.bottom]) ∧ Mod (fun _ => False) w w' := by
  go_enter Tryd.func47, Tryd.ntmps47
  go_wp2
  refine bodyPost_ret (v := .agg #[.int .i64 x.left, .int .i64 x.top, .int .i64 x.right, .int .i64 x.bottom]) (by simp [results, Tryd.results47, go_sem]) rfl ⟨rfl, by (repeat (first | with_reducible exact Mod.refl _ _ | with_reducible refine Mod.drewN ?_ _ | with_reducible refine Mod.drew ?_ | with_reducible refine Mod.alloc ?_ _ | ((with_reducible refine Mod.setNew ?_ ?_ _ _ _); (rotate_left; omega)) | with_reducible refine Mod.setAt ?_ _ _ _ ))⟩

set_option maxRecDepth 100000 in
set_option maxHeartbeats 8000000 in
theorem eqEdges_same (x : Edges) (w : World) : Calls Tryd.prog 68 #[.agg #[.int .i64 x.left, .int .i64 x.top, .int .i64 x.right, .int .i64 x.bottom], .agg #[.int .i64 x.left, .int .i64 x.top, .int .i64 x.right, .int .i64 x.bottom]] w fun e w' => e = .returned (.bool true) ∧ Mod (fun _ => False) w w' := by
  go_enter Tryd.func68, Tryd.ntmps68
  go_wp2
  go_ret
  exact ⟨rfl, by (repeat (first | with_reducible exact Mod.refl _ _ | with_reducible refine Mod.drewN ?_ _ | with_reducible refine Mod.drew ?_ | with_reducible refine Mod.alloc ?_ _ | ((with_reducible refine Mod.setNew ?_ ?_ _ _ _); (rotate_left; omega)) | with_reducible refine Mod.setAt ?_ _ _ _ ))⟩

structure Style where
  dir : Int
  wrap : Int
  justify : Int
  items : Int
  self : Int
  content : Int
  apart : Bool
  hidden : Bool
  order : Int
  grow : Int
  shrink : Int
  basis : Val
  width : Val
  height : Val
  minWidth : Val
  minHeight : Val
  maxWidth : Val
  maxHeight : Val
  ratio : Int
  margin : Sides
  inset : Sides
  pad : Edges
  border : Edges
  rowGap : Int
  colGap : Int
  deriving DecidableEq, Inhabited
def Style.cells (x : Style) : List Value := [.int .i64 x.dir, .int .i64 x.wrap, .int .i64 x.justify, .int .i64 x.items, .int .i64 x.self, .int .i64 x.content, .bool x.apart, .bool x.hidden, .int .i64 x.order, .int .i64 x.grow, .int .i64 x.shrink, .int .i64 x.basis.kind, .int .i64 x.basis.n, .int .i64 x.width.kind, .int .i64 x.width.n, .int .i64 x.height.kind, .int .i64 x.height.n, .int .i64 x.minWidth.kind, .int .i64 x.minWidth.n, .int .i64 x.minHeight.kind, .int .i64 x.minHeight.n, .int .i64 x.maxWidth.kind, .int .i64 x.maxWidth.n, .int .i64 x.maxHeight.kind, .int .i64 x.maxHeight.n, .int .i64 x.ratio, .int .i64 x.margin.left.kind, .int .i64 x.margin.left.n, .int .i64 x.margin.top.kind, .int .i64 x.margin.top.n, .int .i64 x.margin.right.kind, .int .i64 x.margin.right.n, .int .i64 x.margin.bottom.kind, .int .i64 x.margin.bottom.n, .int .i64 x.margin.start.kind, .int .i64 x.margin.start.n, .int .i64 x.margin.stop.kind, .int .i64 x.margin.stop.n, .int .i64 x.inset.left.kind, .int .i64 x.inset.left.n, .int .i64 x.inset.top.kind, .int .i64 x.inset.top.n, .int .i64 x.inset.right.kind, .int .i64 x.inset.right.n, .int .i64 x.inset.bottom.kind, .int .i64 x.inset.bottom.n, .int .i64 x.inset.start.kind, .int .i64 x.inset.start.n, .int .i64 x.inset.stop.kind, .int .i64 x.inset.stop.n, .int .i64 x.pad.left, .int .i64 x.pad.top, .int .i64 x.pad.right, .int .i64 x.pad.bottom, .int .i64 x.border.left, .int .i64 x.border.top, .int .i64 x.border.right, .int .i64 x.border.bottom, .int .i64 x.rowGap, .int .i64 x.colGap]

end Go.Proofs.YthffgbhphjkdeaaDoor
namespace Go.Proofs.YthffgbhphjkdeaaDoor
open Go.RowKit
set_option linter.unusedVariables false
set_option linter.unusedSimpArgs false

def valOk (v : Val) : Bool := if v.kind = 0 ∨ v.kind = 3 then decide (v.n = 0) else if v.kind = 1 then inB v.n (-1048576) 1048576 else if v.kind = 2 then inB v.n (-1000) 1000 else false
def sizeOk (v : Val) : Bool := valOk v && decide (0 ≤ v.n)
def edgesOk (x : Edges) : Bool := inB x.left 0 1048576 && inB x.top 0 1048576 && inB x.right 0 1048576 && inB x.bottom 0 1048576
def sidesOk (x : Sides) : Bool := valOk x.left && valOk x.top && valOk x.right && valOk x.bottom && valOk x.start && valOk x.stop

set_option maxRecDepth 100000 in
set_option maxHeartbeats 4000000 in
theorem valueOk_any (v : Val) (w : World) : Calls Tryd.prog 57 #[.agg #[.int .i64 v.kind, .int .i64 v.n]] w fun e w' => e = .returned (.bool (valOk v)) ∧ Mod (fun _ => False) w w' := by
  refine calls_sx Tryd.func57 rfl rfl (fun a h1 h2 h3 => ((Fr.nil h1 h2).arg (h3 0 _ rfl))) ?_
  by_cases k0 : v.kind = 0
  · have hv : valOk v = decide (v.n = 0) := if_pos (.inl k0)
    repeat (first | refine qaL ?_ | refine qaA ?_ | refine qau ?_ | refine qah ?_ | refine SX.block ?_ | refine qaB ?_ | refine qaw rfl ?_ | refine qax rfl ?_ | (refine qaR ?_; (first | refine qaa (qaE rfl (fun w _ => in_any _ _ _ _)) rfl ?_ ?_ ?_); rfl; rfl) | (refine qaN ?_; (first | refine qaa (qad 0 rfl rfl rfl) rfl ?_ ?_ ?_ | refine qaa (qad 1 rfl rfl rfl) rfl ?_ ?_ ?_ | refine qaa (qad 2 rfl rfl rfl) rfl ?_ ?_ ?_ | refine qaa (qad 3 rfl rfl rfl) rfl ?_ ?_ ?_ | refine qaa (qap rfl (by assumption) (fun h => h)) rfl ?_ ?_ ?_); rfl; rfl) | (refine qas ?_; (first | refine qaa (qaj rfl) rfl ?_ ?_ ?_); rfl; rfl) | (refine qay ?_; (first | refine qaa (qao rfl) rfl ?_ ?_ ?_); rfl; rfl) | (refine l_eql ?_; (first | refine qaa (OpW.eqlT rfl rfl (by omega)) rfl ?_ ?_ ?_ | refine qaa (OpW.eqlF rfl rfl (by omega)) rfl ?_ ?_ ?_ | refine qaa (OpW.eql rfl rfl) rfl ?_ ?_ ?_); rfl; rfl) | (refine qbb ?_; refine qaF ?_ ?_ rfl rfl (fun g => ?_); rfl; rfl) | refine qaM ?_ | refine qaC ?_ | refine qar ?_ | refine qam ?_ | refine qag ?_ | refine qan ?_ | refine qal ?_ | refine qai rfl ?_)
    refine qaJ rfl rfl (fun w' hl => ⟨ret_bool hv.symm, hl.mod⟩)
  · by_cases k3 : v.kind = 3
    · have hv : valOk v = decide (v.n = 0) := if_pos (.inr k3)
      repeat (first | refine qaL ?_ | refine qaA ?_ | refine qau ?_ | refine qah ?_ | refine SX.block ?_ | refine qaB ?_ | refine qaw rfl ?_ | refine qax rfl ?_ | (refine qaR ?_; (first | refine qaa (qaE rfl (fun w _ => in_any _ _ _ _)) rfl ?_ ?_ ?_); rfl; rfl) | (refine qaN ?_; (first | refine qaa (qad 0 rfl rfl rfl) rfl ?_ ?_ ?_ | refine qaa (qad 1 rfl rfl rfl) rfl ?_ ?_ ?_ | refine qaa (qad 2 rfl rfl rfl) rfl ?_ ?_ ?_ | refine qaa (qad 3 rfl rfl rfl) rfl ?_ ?_ ?_ | refine qaa (qap rfl (by assumption) (fun h => h)) rfl ?_ ?_ ?_); rfl; rfl) | (refine qas ?_; (first | refine qaa (qaj rfl) rfl ?_ ?_ ?_); rfl; rfl) | (refine qay ?_; (first | refine qaa (qao rfl) rfl ?_ ?_ ?_); rfl; rfl) | (refine l_eql ?_; (first | refine qaa (OpW.eqlT rfl rfl (by omega)) rfl ?_ ?_ ?_ | refine qaa (OpW.eqlF rfl rfl (by omega)) rfl ?_ ?_ ?_ | refine qaa (OpW.eql rfl rfl) rfl ?_ ?_ ?_); rfl; rfl) | (refine qbb ?_; refine qaF ?_ ?_ rfl rfl (fun g => ?_); rfl; rfl) | refine qaM ?_ | refine qaC ?_ | refine qar ?_ | refine qam ?_ | refine qag ?_ | refine qan ?_ | refine qal ?_ | refine qai rfl ?_)
      refine qaJ rfl rfl (fun w' hl => ⟨ret_bool hv.symm, hl.mod⟩)
    · by_cases k1 : v.kind = 1
      · have hv : valOk v = inB v.n (-1048576) 1048576 := (if_neg (by omega)).trans (if_pos k1)
        repeat (first | refine qaL ?_ | refine qaA ?_ | refine qau ?_ | refine qah ?_ | refine SX.block ?_ | refine qaB ?_ | refine qaw rfl ?_ | refine qax rfl ?_ | (refine qaR ?_; (first | refine qaa (qaE rfl (fun w _ => in_any _ _ _ _)) rfl ?_ ?_ ?_); rfl; rfl) | (refine qaN ?_; (first | refine qaa (qad 0 rfl rfl rfl) rfl ?_ ?_ ?_ | refine qaa (qad 1 rfl rfl rfl) rfl ?_ ?_ ?_ | refine qaa (qad 2 rfl rfl rfl) rfl ?_ ?_ ?_ | refine qaa (qad 3 rfl rfl rfl) rfl ?_ ?_ ?_ | refine qaa (qap rfl (by assumption) (fun h => h)) rfl ?_ ?_ ?_); rfl; rfl) | (refine qas ?_; (first | refine qaa (qaj rfl) rfl ?_ ?_ ?_); rfl; rfl) | (refine qay ?_; (first | refine qaa (qao rfl) rfl ?_ ?_ ?_); rfl; rfl) | (refine l_eql ?_; (first | refine qaa (OpW.eqlT rfl rfl (by omega)) rfl ?_ ?_ ?_ | refine qaa (OpW.eqlF rfl rfl (by omega)) rfl ?_ ?_ ?_ | refine qaa (OpW.eql rfl rfl) rfl ?_ ?_ ?_); rfl; rfl) | (refine qbb ?_; refine qaF ?_ ?_ rfl rfl (fun g => ?_); rfl; rfl) | refine qaM ?_ | refine qaC ?_ | refine qar ?_ | refine qam ?_ | refine qag ?_ | refine qan ?_ | refine qal ?_ | refine qai rfl ?_)
        refine qaJ rfl rfl (fun w' hl => ⟨ret_bool hv.symm, hl.mod⟩)
      · by_cases k2 : v.kind = 2
        · have hv : valOk v = inB v.n (-1000) 1000 := (if_neg (by omega)).trans ((if_neg k1).trans (if_pos k2))
          repeat (first | refine qaL ?_ | refine qaA ?_ | refine qau ?_ | refine qah ?_ | refine SX.block ?_ | refine qaB ?_ | refine qaw rfl ?_ | refine qax rfl ?_ | (refine qaR ?_; (first | refine qaa (qaE rfl (fun w _ => in_any _ _ _ _)) rfl ?_ ?_ ?_); rfl; rfl) | (refine qaN ?_; (first | refine qaa (qad 0 rfl rfl rfl) rfl ?_ ?_ ?_ | refine qaa (qad 1 rfl rfl rfl) rfl ?_ ?_ ?_ | refine qaa (qad 2 rfl rfl rfl) rfl ?_ ?_ ?_ | refine qaa (qad 3 rfl rfl rfl) rfl ?_ ?_ ?_ | refine qaa (qap rfl (by assumption) (fun h => h)) rfl ?_ ?_ ?_); rfl; rfl) | (refine qas ?_; (first | refine qaa (qaj rfl) rfl ?_ ?_ ?_); rfl; rfl) | (refine qay ?_; (first | refine qaa (qao rfl) rfl ?_ ?_ ?_); rfl; rfl) | (refine l_eql ?_; (first | refine qaa (OpW.eqlT rfl rfl (by omega)) rfl ?_ ?_ ?_ | refine qaa (OpW.eqlF rfl rfl (by omega)) rfl ?_ ?_ ?_ | refine qaa (OpW.eql rfl rfl) rfl ?_ ?_ ?_); rfl; rfl) | (refine qbb ?_; refine qaF ?_ ?_ rfl rfl (fun g => ?_); rfl; rfl) | refine qaM ?_ | refine qaC ?_ | refine qar ?_ | refine qam ?_ | refine qag ?_ | refine qan ?_ | refine qal ?_ | refine qai rfl ?_)
          refine qaJ rfl rfl (fun w' hl => ⟨ret_bool hv.symm, hl.mod⟩)
        · have hv : valOk v = false := (if_neg (by omega)).trans ((if_neg k1).trans (if_neg k2))
          repeat (first | refine qaL ?_ | refine qaA ?_ | refine qau ?_ | refine qah ?_ | refine SX.block ?_ | refine qaB ?_ | refine qaw rfl ?_ | refine qax rfl ?_ | (refine qaR ?_; (first | refine qaa (qaE rfl (fun w _ => in_any _ _ _ _)) rfl ?_ ?_ ?_); rfl; rfl) | (refine qaN ?_; (first | refine qaa (qad 0 rfl rfl rfl) rfl ?_ ?_ ?_ | refine qaa (qad 1 rfl rfl rfl) rfl ?_ ?_ ?_ | refine qaa (qad 2 rfl rfl rfl) rfl ?_ ?_ ?_ | refine qaa (qad 3 rfl rfl rfl) rfl ?_ ?_ ?_ | refine qaa (qap rfl (by assumption) (fun h => h)) rfl ?_ ?_ ?_); rfl; rfl) | (refine qas ?_; (first | refine qaa (qaj rfl) rfl ?_ ?_ ?_); rfl; rfl) | (refine qay ?_; (first | refine qaa (qao rfl) rfl ?_ ?_ ?_); rfl; rfl) | (refine l_eql ?_; (first | refine qaa (OpW.eqlT rfl rfl (by omega)) rfl ?_ ?_ ?_ | refine qaa (OpW.eqlF rfl rfl (by omega)) rfl ?_ ?_ ?_ | refine qaa (OpW.eql rfl rfl) rfl ?_ ?_ ?_); rfl; rfl) | (refine qbb ?_; refine qaF ?_ ?_ rfl rfl (fun g => ?_); rfl; rfl) | refine qaM ?_ | refine qaC ?_ | refine qar ?_ | refine qam ?_ | refine qag ?_ | refine qan ?_ | refine qal ?_ | refine qai rfl ?_)
          refine qaJ rfl rfl (fun w' hl => ⟨ret_bool hv.symm, hl.mod⟩)

set_option maxRecDepth 100000 in
set_option maxHeartbeats 4000000 in
theorem sizeOk_any (v : Val) (w : World) : Calls Tryd.prog 123 #[.agg #[.int .i64 v.kind, .int .i64 v.n]] w fun e w' => e = .returned (.bool (sizeOk v)) ∧ Mod (fun _ => False) w w' := by
  refine calls_sx Tryd.func123 rfl rfl (fun a h1 h2 h3 => ((Fr.nil h1 h2).arg (h3 0 _ rfl))) ?_
  cases q0 : valOk v
  · have hv : sizeOk v = false := by simp [sizeOk, q0]
    repeat (first | refine qaL ?_ | refine qaA ?_ | refine qau ?_ | refine qah ?_ | refine SX.block ?_ | refine qaB ?_ | refine qaw rfl ?_ | refine qax rfl ?_ | (refine qaW rfl rfl rfl ?_) | (refine qaR ?_; (first | refine qaa (qak rfl (fun w hl => valueOk_any v _)) rfl ?_ ?_ ?_ | refine qaa (qak rfl (fun w hl => valueOk_any _ _)) rfl ?_ ?_ ?_); rfl; rfl) | (refine qaN ?_; (first | refine qaa (qad 0 rfl rfl rfl) rfl ?_ ?_ ?_ | refine qaa (qad 1 rfl rfl rfl) rfl ?_ ?_ ?_ | refine qaa (qad 2 rfl rfl rfl) rfl ?_ ?_ ?_ | refine qaa (qad 3 rfl rfl rfl) rfl ?_ ?_ ?_ | refine qaa (qap rfl (by assumption) (fun h => h)) rfl ?_ ?_ ?_ | refine qaa (qac 0 rfl rfl rfl) rfl ?_ ?_ ?_ | refine qaa (qac 1 rfl rfl rfl) rfl ?_ ?_ ?_ | refine qaa (qac 2 rfl rfl rfl) rfl ?_ ?_ ?_ | refine qaa (qac 3 rfl rfl rfl) rfl ?_ ?_ ?_ | refine qaa (qab 0 rfl rfl rfl rfl) rfl ?_ ?_ ?_ | refine qaa (qab 1 rfl rfl rfl rfl) rfl ?_ ?_ ?_ | refine qaa (qab 2 rfl rfl rfl rfl) rfl ?_ ?_ ?_ | refine qaa (qab 3 rfl rfl rfl rfl) rfl ?_ ?_ ?_); rfl; rfl) | (refine qas ?_; (first | refine qaa (qaj rfl) rfl ?_ ?_ ?_); rfl; rfl) | (refine qaP ?_; (first | refine qaa (qav rfl) rfl ?_ ?_ ?_); rfl; rfl) | (refine qay ?_; (first | refine qaa (qao rfl) rfl ?_ ?_ ?_); rfl; rfl) | (refine l_geq ?_; (first | refine qaa (OpW.geqT rfl rfl (by omega)) rfl ?_ ?_ ?_ | refine qaa (OpW.geqF rfl rfl (by omega)) rfl ?_ ?_ ?_ | refine qaa (OpW.geq rfl rfl) rfl ?_ ?_ ?_); rfl; rfl) | (refine qaV ?_; (first | refine qaa (qaD rfl rfl rfl) rfl ?_ ?_ ?_); rfl; rfl) | (refine qbb ?_; refine qaF ?_ ?_ rfl rfl (fun g => ?_); rfl; rfl) | (rw [q0]) | refine qaM ?_ | refine qaC ?_ | refine qar ?_ | refine qam ?_ | refine qag ?_ | refine qan ?_ | refine qal ?_ | refine qai rfl ?_)
    refine qaJ rfl rfl (fun w' hl => ⟨ret_bool hv.symm, hl.mod⟩)
  · have hv : sizeOk v = decide (0 ≤ v.n) := by simp [sizeOk, q0]
    repeat (first | refine qaL ?_ | refine qaA ?_ | refine qau ?_ | refine qah ?_ | refine SX.block ?_ | refine qaB ?_ | refine qaw rfl ?_ | refine qax rfl ?_ | (refine qaW rfl rfl rfl ?_) | (refine qaR ?_; (first | refine qaa (qak rfl (fun w hl => valueOk_any v _)) rfl ?_ ?_ ?_ | refine qaa (qak rfl (fun w hl => valueOk_any _ _)) rfl ?_ ?_ ?_); rfl; rfl) | (refine qaN ?_; (first | refine qaa (qad 0 rfl rfl rfl) rfl ?_ ?_ ?_ | refine qaa (qad 1 rfl rfl rfl) rfl ?_ ?_ ?_ | refine qaa (qad 2 rfl rfl rfl) rfl ?_ ?_ ?_ | refine qaa (qad 3 rfl rfl rfl) rfl ?_ ?_ ?_ | refine qaa (qap rfl (by assumption) (fun h => h)) rfl ?_ ?_ ?_ | refine qaa (qac 0 rfl rfl rfl) rfl ?_ ?_ ?_ | refine qaa (qac 1 rfl rfl rfl) rfl ?_ ?_ ?_ | refine qaa (qac 2 rfl rfl rfl) rfl ?_ ?_ ?_ | refine qaa (qac 3 rfl rfl rfl) rfl ?_ ?_ ?_ | refine qaa (qab 0 rfl rfl rfl rfl) rfl ?_ ?_ ?_ | refine qaa (qab 1 rfl rfl rfl rfl) rfl ?_ ?_ ?_ | refine qaa (qab 2 rfl rfl rfl rfl) rfl ?_ ?_ ?_ | refine qaa (qab 3 rfl rfl rfl rfl) rfl ?_ ?_ ?_); rfl; rfl) | (refine qas ?_; (first | refine qaa (qaj rfl) rfl ?_ ?_ ?_); rfl; rfl) | (refine qaP ?_; (first | refine qaa (qav rfl) rfl ?_ ?_ ?_); rfl; rfl) | (refine qay ?_; (first | refine qaa (qao rfl) rfl ?_ ?_ ?_); rfl; rfl) | (refine l_geq ?_; (first | refine qaa (OpW.geqT rfl rfl (by omega)) rfl ?_ ?_ ?_ | refine qaa (OpW.geqF rfl rfl (by omega)) rfl ?_ ?_ ?_ | refine qaa (OpW.geq rfl rfl) rfl ?_ ?_ ?_); rfl; rfl) | (refine qaV ?_; (first | refine qaa (qaD rfl rfl rfl) rfl ?_ ?_ ?_); rfl; rfl) | (refine qbb ?_; refine qaF ?_ ?_ rfl rfl (fun g => ?_); rfl; rfl) | (rw [q0]) | refine qaM ?_ | refine qaC ?_ | refine qar ?_ | refine qam ?_ | refine qag ?_ | refine qan ?_ | refine qal ?_ | refine qai rfl ?_)
    refine qaJ rfl rfl (fun w' hl => ⟨ret_bool hv.symm, hl.mod⟩)

set_option maxRecDepth 100000 in
set_option maxHeartbeats 4000000 in
theorem edgesOk_any (x : Edges) (w : World) : Calls Tryd.prog 125 #[.agg #[.int .i64 x.left, .int .i64 x.top, .int .i64 x.right, .int .i64 x.bottom]] w fun e w' => e = .returned (.bool (edgesOk x)) ∧ Mod (fun _ => False) w w' := by
  refine calls_sx Tryd.func125 rfl rfl (fun a h1 h2 h3 => ((Fr.nil h1 h2).arg (h3 0 _ rfl))) ?_
  cases q0 : inB x.left 0 1048576
  · have hv : edgesOk x = false := by simp [edgesOk, q0]
    repeat (first | refine qaL ?_ | refine qaA ?_ | refine qau ?_ | refine qah ?_ | refine SX.block ?_ | refine qaB ?_ | refine qaw rfl ?_ | refine qax rfl ?_ | (refine qaW rfl rfl rfl ?_) | (refine qaR ?_; (first | refine qaa (qaE rfl (fun w _ => in_any _ _ _ _)) rfl ?_ ?_ ?_); rfl; rfl) | (refine qaN ?_; (first | refine qaa (qad 0 rfl rfl rfl) rfl ?_ ?_ ?_ | refine qaa (qad 1 rfl rfl rfl) rfl ?_ ?_ ?_ | refine qaa (qad 2 rfl rfl rfl) rfl ?_ ?_ ?_ | refine qaa (qad 3 rfl rfl rfl) rfl ?_ ?_ ?_ | refine qaa (qap rfl (by assumption) (fun h => h)) rfl ?_ ?_ ?_); rfl; rfl) | (refine qas ?_; (first | refine qaa (qaj rfl) rfl ?_ ?_ ?_); rfl; rfl) | (refine qaP ?_; (first | refine qaa (qav rfl) rfl ?_ ?_ ?_); rfl; rfl) | (refine qay ?_; (first | refine qaa (qao rfl) rfl ?_ ?_ ?_); rfl; rfl) | (refine qaV ?_; (first | refine qaa (qaD rfl rfl rfl) rfl ?_ ?_ ?_); rfl; rfl) | (refine qbb ?_; refine qaF ?_ ?_ rfl rfl (fun g => ?_); rfl; rfl) | (rw [q0]) | refine qaM ?_ | refine qaC ?_ | refine qar ?_ | refine qam ?_ | refine qag ?_ | refine qan ?_ | refine qal ?_ | refine qai rfl ?_)
    refine qaJ rfl rfl (fun w' hl => ⟨ret_bool hv.symm, hl.mod⟩)
  cases q1 : inB x.top 0 1048576
  · have hv : edgesOk x = false := by simp [edgesOk, q0, q1]
    repeat (first | refine qaL ?_ | refine qaA ?_ | refine qau ?_ | refine qah ?_ | refine SX.block ?_ | refine qaB ?_ | refine qaw rfl ?_ | refine qax rfl ?_ | (refine qaW rfl rfl rfl ?_) | (refine qaR ?_; (first | refine qaa (qaE rfl (fun w _ => in_any _ _ _ _)) rfl ?_ ?_ ?_); rfl; rfl) | (refine qaN ?_; (first | refine qaa (qad 0 rfl rfl rfl) rfl ?_ ?_ ?_ | refine qaa (qad 1 rfl rfl rfl) rfl ?_ ?_ ?_ | refine qaa (qad 2 rfl rfl rfl) rfl ?_ ?_ ?_ | refine qaa (qad 3 rfl rfl rfl) rfl ?_ ?_ ?_ | refine qaa (qap rfl (by assumption) (fun h => h)) rfl ?_ ?_ ?_); rfl; rfl) | (refine qas ?_; (first | refine qaa (qaj rfl) rfl ?_ ?_ ?_); rfl; rfl) | (refine qaP ?_; (first | refine qaa (qav rfl) rfl ?_ ?_ ?_); rfl; rfl) | (refine qay ?_; (first | refine qaa (qao rfl) rfl ?_ ?_ ?_); rfl; rfl) | (refine qaV ?_; (first | refine qaa (qaD rfl rfl rfl) rfl ?_ ?_ ?_); rfl; rfl) | (refine qbb ?_; refine qaF ?_ ?_ rfl rfl (fun g => ?_); rfl; rfl) | ((first | rw [q0] | rw [q1])) | refine qaM ?_ | refine qaC ?_ | refine qar ?_ | refine qam ?_ | refine qag ?_ | refine qan ?_ | refine qal ?_ | refine qai rfl ?_)
    refine qaJ rfl rfl (fun w' hl => ⟨ret_bool hv.symm, hl.mod⟩)
  cases q2 : inB x.right 0 1048576
  · have hv : edgesOk x = false := by simp [edgesOk, q0, q1, q2]
    repeat (first | refine qaL ?_ | refine qaA ?_ | refine qau ?_ | refine qah ?_ | refine SX.block ?_ | refine qaB ?_ | refine qaw rfl ?_ | refine qax rfl ?_ | (refine qaW rfl rfl rfl ?_) | (refine qaR ?_; (first | refine qaa (qaE rfl (fun w _ => in_any _ _ _ _)) rfl ?_ ?_ ?_); rfl; rfl) | (refine qaN ?_; (first | refine qaa (qad 0 rfl rfl rfl) rfl ?_ ?_ ?_ | refine qaa (qad 1 rfl rfl rfl) rfl ?_ ?_ ?_ | refine qaa (qad 2 rfl rfl rfl) rfl ?_ ?_ ?_ | refine qaa (qad 3 rfl rfl rfl) rfl ?_ ?_ ?_ | refine qaa (qap rfl (by assumption) (fun h => h)) rfl ?_ ?_ ?_); rfl; rfl) | (refine qas ?_; (first | refine qaa (qaj rfl) rfl ?_ ?_ ?_); rfl; rfl) | (refine qaP ?_; (first | refine qaa (qav rfl) rfl ?_ ?_ ?_); rfl; rfl) | (refine qay ?_; (first | refine qaa (qao rfl) rfl ?_ ?_ ?_); rfl; rfl) | (refine qaV ?_; (first | refine qaa (qaD rfl rfl rfl) rfl ?_ ?_ ?_); rfl; rfl) | (refine qbb ?_; refine qaF ?_ ?_ rfl rfl (fun g => ?_); rfl; rfl) | ((first | rw [q0] | rw [q1] | rw [q2])) | refine qaM ?_ | refine qaC ?_ | refine qar ?_ | refine qam ?_ | refine qag ?_ | refine qan ?_ | refine qal ?_ | refine qai rfl ?_)
    refine qaJ rfl rfl (fun w' hl => ⟨ret_bool hv.symm, hl.mod⟩)
  cases q3 : inB x.bottom 0 1048576
  · have hv : edgesOk x = false := by simp [edgesOk, q0, q1, q2, q3]
    repeat (first | refine qaL ?_ | refine qaA ?_ | refine qau ?_ | refine qah ?_ | refine SX.block ?_ | refine qaB ?_ | refine qaw rfl ?_ | refine qax rfl ?_ | (refine qaW rfl rfl rfl ?_) | (refine qaR ?_; (first | refine qaa (qaE rfl (fun w _ => in_any _ _ _ _)) rfl ?_ ?_ ?_); rfl; rfl) | (refine qaN ?_; (first | refine qaa (qad 0 rfl rfl rfl) rfl ?_ ?_ ?_ | refine qaa (qad 1 rfl rfl rfl) rfl ?_ ?_ ?_ | refine qaa (qad 2 rfl rfl rfl) rfl ?_ ?_ ?_ | refine qaa (qad 3 rfl rfl rfl) rfl ?_ ?_ ?_ | refine qaa (qap rfl (by assumption) (fun h => h)) rfl ?_ ?_ ?_); rfl; rfl) | (refine qas ?_; (first | refine qaa (qaj rfl) rfl ?_ ?_ ?_); rfl; rfl) | (refine qaP ?_; (first | refine qaa (qav rfl) rfl ?_ ?_ ?_); rfl; rfl) | (refine qay ?_; (first | refine qaa (qao rfl) rfl ?_ ?_ ?_); rfl; rfl) | (refine qaV ?_; (first | refine qaa (qaD rfl rfl rfl) rfl ?_ ?_ ?_); rfl; rfl) | (refine qbb ?_; refine qaF ?_ ?_ rfl rfl (fun g => ?_); rfl; rfl) | ((first | rw [q0] | rw [q1] | rw [q2] | rw [q3])) | refine qaM ?_ | refine qaC ?_ | refine qar ?_ | refine qam ?_ | refine qag ?_ | refine qan ?_ | refine qal ?_ | refine qai rfl ?_)
    refine qaJ rfl rfl (fun w' hl => ⟨ret_bool hv.symm, hl.mod⟩)
  have hv : edgesOk x = true := by simp [edgesOk, q0, q1, q2, q3]
  repeat (first | refine qaL ?_ | refine qaA ?_ | refine qau ?_ | refine qah ?_ | refine SX.block ?_ | refine qaB ?_ | refine qaw rfl ?_ | refine qax rfl ?_ | (refine qaW rfl rfl rfl ?_) | (refine qaR ?_; (first | refine qaa (qaE rfl (fun w _ => in_any _ _ _ _)) rfl ?_ ?_ ?_); rfl; rfl) | (refine qaN ?_; (first | refine qaa (qad 0 rfl rfl rfl) rfl ?_ ?_ ?_ | refine qaa (qad 1 rfl rfl rfl) rfl ?_ ?_ ?_ | refine qaa (qad 2 rfl rfl rfl) rfl ?_ ?_ ?_ | refine qaa (qad 3 rfl rfl rfl) rfl ?_ ?_ ?_ | refine qaa (qap rfl (by assumption) (fun h => h)) rfl ?_ ?_ ?_); rfl; rfl) | (refine qas ?_; (first | refine qaa (qaj rfl) rfl ?_ ?_ ?_); rfl; rfl) | (refine qaP ?_; (first | refine qaa (qav rfl) rfl ?_ ?_ ?_); rfl; rfl) | (refine qay ?_; (first | refine qaa (qao rfl) rfl ?_ ?_ ?_); rfl; rfl) | (refine qaV ?_; (first | refine qaa (qaD rfl rfl rfl) rfl ?_ ?_ ?_); rfl; rfl) | (refine qbb ?_; refine qaF ?_ ?_ rfl rfl (fun g => ?_); rfl; rfl) | ((first | rw [q0] | rw [q1] | rw [q2] | rw [q3])) | refine qaM ?_ | refine qaC ?_ | refine qar ?_ | refine qam ?_ | refine qag ?_ | refine qan ?_ | refine qal ?_ | refine qai rfl ?_)
  refine qaJ rfl rfl (fun w' hl => ⟨ret_bool hv.symm, hl.mod⟩)

set_option maxRecDepth 100000 in
set_option maxHeartbeats 4000000 in
theorem sidesOk_any (x : Sides) (w : World) : Calls Tryd.prog 124 #[.agg #[.int .i64 x.left.kind, .int .i64 x.left.n, .int .i64 x.top.kind, .int .i64 x.top.n, .int .i64 x.right.kind, .int .i64 x.right.n, .int .i64 x.bottom.kind, .int .i64 x.bottom.n, .int .i64 x.start.kind, .int .i64 x.start.n, .int .i64 x.stop.kind, .int .i64 x.stop.n]] w fun e w' => e = .returned (.bool (sidesOk x)) ∧ Mod (fun _ => False) w w' := by
  refine calls_sx Tryd.func124 rfl rfl (fun a h1 h2 h3 => ((Fr.nil h1 h2).arg (h3 0 _ rfl))) ?_
  cases q0 : valOk x.left
  · have hv : sidesOk x = false := by simp [sidesOk, q0]
    repeat (first | refine qaL ?_ | refine qaA ?_ | refine qau ?_ | refine qah ?_ | refine SX.block ?_ | refine qaB ?_ | refine qaw rfl ?_ | refine qax rfl ?_ | (refine qaW rfl rfl rfl ?_) | (refine qaR ?_; (first | refine qaa (qak rfl (fun w hl => valueOk_any _ _)) rfl ?_ ?_ ?_); rfl; rfl) | (refine qaN ?_; (first | refine qaa (qac 0 rfl rfl rfl) rfl ?_ ?_ ?_ | refine qaa (qac 1 rfl rfl rfl) rfl ?_ ?_ ?_ | refine qaa (qac 2 rfl rfl rfl) rfl ?_ ?_ ?_ | refine qaa (qac 3 rfl rfl rfl) rfl ?_ ?_ ?_ | refine qaa (qab 0 rfl rfl rfl rfl) rfl ?_ ?_ ?_ | refine qaa (qab 1 rfl rfl rfl rfl) rfl ?_ ?_ ?_ | refine qaa (qab 2 rfl rfl rfl rfl) rfl ?_ ?_ ?_ | refine qaa (qab 3 rfl rfl rfl rfl) rfl ?_ ?_ ?_); rfl; rfl) | (refine qas ?_; (first | refine qaa (qaj rfl) rfl ?_ ?_ ?_); rfl; rfl) | (refine qaP ?_; (first | refine qaa (qav rfl) rfl ?_ ?_ ?_); rfl; rfl) | (refine qay ?_; (first | refine qaa (qao rfl) rfl ?_ ?_ ?_); rfl; rfl) | (refine qaV ?_; (first | refine qaa (qaD rfl rfl rfl) rfl ?_ ?_ ?_); rfl; rfl) | (refine qbb ?_; refine qaF ?_ ?_ rfl rfl (fun g => ?_); rfl; rfl) | (rw [q0]) | refine qaM ?_ | refine qaC ?_ | refine qar ?_ | refine qam ?_ | refine qag ?_ | refine qan ?_ | refine qal ?_ | refine qai rfl ?_)
    refine qaJ rfl rfl (fun w' hl => ⟨ret_bool hv.symm, hl.mod⟩)
  cases q1 : valOk x.top
  · have hv : sidesOk x = false := by simp [sidesOk, q0, q1]
    repeat (first | refine qaL ?_ | refine qaA ?_ | refine qau ?_ | refine qah ?_ | refine SX.block ?_ | refine qaB ?_ | refine qaw rfl ?_ | refine qax rfl ?_ | (refine qaW rfl rfl rfl ?_) | (refine qaR ?_; (first | refine qaa (qak rfl (fun w hl => valueOk_any _ _)) rfl ?_ ?_ ?_); rfl; rfl) | (refine qaN ?_; (first | refine qaa (qac 0 rfl rfl rfl) rfl ?_ ?_ ?_ | refine qaa (qac 1 rfl rfl rfl) rfl ?_ ?_ ?_ | refine qaa (qac 2 rfl rfl rfl) rfl ?_ ?_ ?_ | refine qaa (qac 3 rfl rfl rfl) rfl ?_ ?_ ?_ | refine qaa (qab 0 rfl rfl rfl rfl) rfl ?_ ?_ ?_ | refine qaa (qab 1 rfl rfl rfl rfl) rfl ?_ ?_ ?_ | refine qaa (qab 2 rfl rfl rfl rfl) rfl ?_ ?_ ?_ | refine qaa (qab 3 rfl rfl rfl rfl) rfl ?_ ?_ ?_); rfl; rfl) | (refine qas ?_; (first | refine qaa (qaj rfl) rfl ?_ ?_ ?_); rfl; rfl) | (refine qaP ?_; (first | refine qaa (qav rfl) rfl ?_ ?_ ?_); rfl; rfl) | (refine qay ?_; (first | refine qaa (qao rfl) rfl ?_ ?_ ?_); rfl; rfl) | (refine qaV ?_; (first | refine qaa (qaD rfl rfl rfl) rfl ?_ ?_ ?_); rfl; rfl) | (refine qbb ?_; refine qaF ?_ ?_ rfl rfl (fun g => ?_); rfl; rfl) | ((first | rw [q0] | rw [q1])) | refine qaM ?_ | refine qaC ?_ | refine qar ?_ | refine qam ?_ | refine qag ?_ | refine qan ?_ | refine qal ?_ | refine qai rfl ?_)
    refine qaJ rfl rfl (fun w' hl => ⟨ret_bool hv.symm, hl.mod⟩)
  cases q2 : valOk x.right
  · have hv : sidesOk x = false := by simp [sidesOk, q0, q1, q2]
    repeat (first | refine qaL ?_ | refine qaA ?_ | refine qau ?_ | refine qah ?_ | refine SX.block ?_ | refine qaB ?_ | refine qaw rfl ?_ | refine qax rfl ?_ | (refine qaW rfl rfl rfl ?_) | (refine qaR ?_; (first | refine qaa (qak rfl (fun w hl => valueOk_any _ _)) rfl ?_ ?_ ?_); rfl; rfl) | (refine qaN ?_; (first | refine qaa (qac 0 rfl rfl rfl) rfl ?_ ?_ ?_ | refine qaa (qac 1 rfl rfl rfl) rfl ?_ ?_ ?_ | refine qaa (qac 2 rfl rfl rfl) rfl ?_ ?_ ?_ | refine qaa (qac 3 rfl rfl rfl) rfl ?_ ?_ ?_ | refine qaa (qab 0 rfl rfl rfl rfl) rfl ?_ ?_ ?_ | refine qaa (qab 1 rfl rfl rfl rfl) rfl ?_ ?_ ?_ | refine qaa (qab 2 rfl rfl rfl rfl) rfl ?_ ?_ ?_ | refine qaa (qab 3 rfl rfl rfl rfl) rfl ?_ ?_ ?_); rfl; rfl) | (refine qas ?_; (first | refine qaa (qaj rfl) rfl ?_ ?_ ?_); rfl; rfl) | (refine qaP ?_; (first | refine qaa (qav rfl) rfl ?_ ?_ ?_); rfl; rfl) | (refine qay ?_; (first | refine qaa (qao rfl) rfl ?_ ?_ ?_); rfl; rfl) | (refine qaV ?_; (first | refine qaa (qaD rfl rfl rfl) rfl ?_ ?_ ?_); rfl; rfl) | (refine qbb ?_; refine qaF ?_ ?_ rfl rfl (fun g => ?_); rfl; rfl) | ((first | rw [q0] | rw [q1] | rw [q2])) | refine qaM ?_ | refine qaC ?_ | refine qar ?_ | refine qam ?_ | refine qag ?_ | refine qan ?_ | refine qal ?_ | refine qai rfl ?_)
    refine qaJ rfl rfl (fun w' hl => ⟨ret_bool hv.symm, hl.mod⟩)
  cases q3 : valOk x.bottom
  · have hv : sidesOk x = false := by simp [sidesOk, q0, q1, q2, q3]
    repeat (first | refine qaL ?_ | refine qaA ?_ | refine qau ?_ | refine qah ?_ | refine SX.block ?_ | refine qaB ?_ | refine qaw rfl ?_ | refine qax rfl ?_ | (refine qaW rfl rfl rfl ?_) | (refine qaR ?_; (first | refine qaa (qak rfl (fun w hl => valueOk_any _ _)) rfl ?_ ?_ ?_); rfl; rfl) | (refine qaN ?_; (first | refine qaa (qac 0 rfl rfl rfl) rfl ?_ ?_ ?_ | refine qaa (qac 1 rfl rfl rfl) rfl ?_ ?_ ?_ | refine qaa (qac 2 rfl rfl rfl) rfl ?_ ?_ ?_ | refine qaa (qac 3 rfl rfl rfl) rfl ?_ ?_ ?_ | refine qaa (qab 0 rfl rfl rfl rfl) rfl ?_ ?_ ?_ | refine qaa (qab 1 rfl rfl rfl rfl) rfl ?_ ?_ ?_ | refine qaa (qab 2 rfl rfl rfl rfl) rfl ?_ ?_ ?_ | refine qaa (qab 3 rfl rfl rfl rfl) rfl ?_ ?_ ?_); rfl; rfl) | (refine qas ?_; (first | refine qaa (qaj rfl) rfl ?_ ?_ ?_); rfl; rfl) | (refine qaP ?_; (first | refine qaa (qav rfl) rfl ?_ ?_ ?_); rfl; rfl) | (refine qay ?_; (first | refine qaa (qao rfl) rfl ?_ ?_ ?_); rfl; rfl) | (refine qaV ?_; (first | refine qaa (qaD rfl rfl rfl) rfl ?_ ?_ ?_); rfl; rfl) | (refine qbb ?_; refine qaF ?_ ?_ rfl rfl (fun g => ?_); rfl; rfl) | ((first | rw [q0] | rw [q1] | rw [q2] | rw [q3])) | refine qaM ?_ | refine qaC ?_ | refine qar ?_ | refine qam ?_ | refine qag ?_ | refine qan ?_ | refine qal ?_ | refine qai rfl ?_)
    refine qaJ rfl rfl (fun w' hl => ⟨ret_bool hv.symm, hl.mod⟩)
  cases q4 : valOk x.start
  · have hv : sidesOk x = false := by simp [sidesOk, q0, q1, q2, q3, q4]
    repeat (first | refine qaL ?_ | refine qaA ?_ | refine qau ?_ | refine qah ?_ | refine SX.block ?_ | refine qaB ?_ | refine qaw rfl ?_ | refine qax rfl ?_ | (refine qaW rfl rfl rfl ?_) | (refine qaR ?_; (first | refine qaa (qak rfl (fun w hl => valueOk_any _ _)) rfl ?_ ?_ ?_); rfl; rfl) | (refine qaN ?_; (first | refine qaa (qac 0 rfl rfl rfl) rfl ?_ ?_ ?_ | refine qaa (qac 1 rfl rfl rfl) rfl ?_ ?_ ?_ | refine qaa (qac 2 rfl rfl rfl) rfl ?_ ?_ ?_ | refine qaa (qac 3 rfl rfl rfl) rfl ?_ ?_ ?_ | refine qaa (qab 0 rfl rfl rfl rfl) rfl ?_ ?_ ?_ | refine qaa (qab 1 rfl rfl rfl rfl) rfl ?_ ?_ ?_ | refine qaa (qab 2 rfl rfl rfl rfl) rfl ?_ ?_ ?_ | refine qaa (qab 3 rfl rfl rfl rfl) rfl ?_ ?_ ?_); rfl; rfl) | (refine qas ?_; (first | refine qaa (qaj rfl) rfl ?_ ?_ ?_); rfl; rfl) | (refine qaP ?_; (first | refine qaa (qav rfl) rfl ?_ ?_ ?_); rfl; rfl) | (refine qay ?_; (first | refine qaa (qao rfl) rfl ?_ ?_ ?_); rfl; rfl) | (refine qaV ?_; (first | refine qaa (qaD rfl rfl rfl) rfl ?_ ?_ ?_); rfl; rfl) | (refine qbb ?_; refine qaF ?_ ?_ rfl rfl (fun g => ?_); rfl; rfl) | ((first | rw [q0] | rw [q1] | rw [q2] | rw [q3] | rw [q4])) | refine qaM ?_ | refine qaC ?_ | refine qar ?_ | refine qam ?_ | refine qag ?_ | refine qan ?_ | refine qal ?_ | refine qai rfl ?_)
    refine qaJ rfl rfl (fun w' hl => ⟨ret_bool hv.symm, hl.mod⟩)
  cases q5 : valOk x.stop
  · have hv : sidesOk x = false := by simp [sidesOk, q0, q1, q2, q3, q4, q5]
    repeat (first | refine qaL ?_ | refine qaA ?_ | refine qau ?_ | refine qah ?_ | refine SX.block ?_ | refine qaB ?_ | refine qaw rfl ?_ | refine qax rfl ?_ | (refine qaW rfl rfl rfl ?_) | (refine qaR ?_; (first | refine qaa (qak rfl (fun w hl => valueOk_any _ _)) rfl ?_ ?_ ?_); rfl; rfl) | (refine qaN ?_; (first | refine qaa (qac 0 rfl rfl rfl) rfl ?_ ?_ ?_ | refine qaa (qac 1 rfl rfl rfl) rfl ?_ ?_ ?_ | refine qaa (qac 2 rfl rfl rfl) rfl ?_ ?_ ?_ | refine qaa (qac 3 rfl rfl rfl) rfl ?_ ?_ ?_ | refine qaa (qab 0 rfl rfl rfl rfl) rfl ?_ ?_ ?_ | refine qaa (qab 1 rfl rfl rfl rfl) rfl ?_ ?_ ?_ | refine qaa (qab 2 rfl rfl rfl rfl) rfl ?_ ?_ ?_ | refine qaa (qab 3 rfl rfl rfl rfl) rfl ?_ ?_ ?_); rfl; rfl) | (refine qas ?_; (first | refine qaa (qaj rfl) rfl ?_ ?_ ?_); rfl; rfl) | (refine qaP ?_; (first | refine qaa (qav rfl) rfl ?_ ?_ ?_); rfl; rfl) | (refine qay ?_; (first | refine qaa (qao rfl) rfl ?_ ?_ ?_); rfl; rfl) | (refine qaV ?_; (first | refine qaa (qaD rfl rfl rfl) rfl ?_ ?_ ?_); rfl; rfl) | (refine qbb ?_; refine qaF ?_ ?_ rfl rfl (fun g => ?_); rfl; rfl) | ((first | rw [q0] | rw [q1] | rw [q2] | rw [q3] | rw [q4] | rw [q5])) | refine qaM ?_ | refine qaC ?_ | refine qar ?_ | refine qam ?_ | refine qag ?_ | refine qan ?_ | refine qal ?_ | refine qai rfl ?_)
    refine qaJ rfl rfl (fun w' hl => ⟨ret_bool hv.symm, hl.mod⟩)
  have hv : sidesOk x = true := by simp [sidesOk, q0, q1, q2, q3, q4, q5]
  repeat (first | refine qaL ?_ | refine qaA ?_ | refine qau ?_ | refine qah ?_ | refine SX.block ?_ | refine qaB ?_ | refine qaw rfl ?_ | refine qax rfl ?_ | (refine qaW rfl rfl rfl ?_) | (refine qaR ?_; (first | refine qaa (qak rfl (fun w hl => valueOk_any _ _)) rfl ?_ ?_ ?_); rfl; rfl) | (refine qaN ?_; (first | refine qaa (qac 0 rfl rfl rfl) rfl ?_ ?_ ?_ | refine qaa (qac 1 rfl rfl rfl) rfl ?_ ?_ ?_ | refine qaa (qac 2 rfl rfl rfl) rfl ?_ ?_ ?_ | refine qaa (qac 3 rfl rfl rfl) rfl ?_ ?_ ?_ | refine qaa (qab 0 rfl rfl rfl rfl) rfl ?_ ?_ ?_ | refine qaa (qab 1 rfl rfl rfl rfl) rfl ?_ ?_ ?_ | refine qaa (qab 2 rfl rfl rfl rfl) rfl ?_ ?_ ?_ | refine qaa (qab 3 rfl rfl rfl rfl) rfl ?_ ?_ ?_); rfl; rfl) | (refine qas ?_; (first | refine qaa (qaj rfl) rfl ?_ ?_ ?_); rfl; rfl) | (refine qaP ?_; (first | refine qaa (qav rfl) rfl ?_ ?_ ?_); rfl; rfl) | (refine qay ?_; (first | refine qaa (qao rfl) rfl ?_ ?_ ?_); rfl; rfl) | (refine qaV ?_; (first | refine qaa (qaD rfl rfl rfl) rfl ?_ ?_ ?_); rfl; rfl) | (refine qbb ?_; refine qaF ?_ ?_ rfl rfl (fun g => ?_); rfl; rfl) | ((first | rw [q0] | rw [q1] | rw [q2] | rw [q3] | rw [q4] | rw [q5])) | refine qaM ?_ | refine qaC ?_ | refine qar ?_ | refine qam ?_ | refine qag ?_ | refine qan ?_ | refine qal ?_ | refine qai rfl ?_)
  refine qaJ rfl rfl (fun w' hl => ⟨ret_bool hv.symm, hl.mod⟩)

set_option maxRecDepth 100000 in
set_option maxHeartbeats 4000000 in
theorem svalueOk_any (v : Val) (w : World) : Calls Tryd.prog 51 #[.agg #[.int .i64 v.kind, .int .i64 v.n]] w fun e w' => e = .returned (.bool (valOk v)) ∧ Mod (fun _ => False) w w' := by
  refine calls_sx Tryd.func51 rfl rfl (fun a h1 h2 h3 => ((Fr.nil h1 h2).arg (h3 0 _ rfl))) ?_
  by_cases k0 : v.kind = 0
  · have hv : valOk v = decide (v.n = 0) := if_pos (.inl k0)
    repeat (first | refine qaL ?_ | refine qaA ?_ | refine qau ?_ | refine qah ?_ | refine SX.block ?_ | refine qaB ?_ | refine qaw rfl ?_ | refine qax rfl ?_ | (refine qaR ?_; (first | refine qaa (qaE rfl (fun w _ => l01In_any _ _ _ _)) rfl ?_ ?_ ?_); rfl; rfl) | (refine qaN ?_; (first | refine qaa (qad 0 rfl rfl rfl) rfl ?_ ?_ ?_ | refine qaa (qad 1 rfl rfl rfl) rfl ?_ ?_ ?_ | refine qaa (qad 2 rfl rfl rfl) rfl ?_ ?_ ?_ | refine qaa (qad 3 rfl rfl rfl) rfl ?_ ?_ ?_ | refine qaa (qap rfl (by assumption) (fun h => h)) rfl ?_ ?_ ?_); rfl; rfl) | (refine qas ?_; (first | refine qaa (qaj rfl) rfl ?_ ?_ ?_); rfl; rfl) | (refine qay ?_; (first | refine qaa (qao rfl) rfl ?_ ?_ ?_); rfl; rfl) | (refine l_eql ?_; (first | refine qaa (OpW.eqlT rfl rfl (by omega)) rfl ?_ ?_ ?_ | refine qaa (OpW.eqlF rfl rfl (by omega)) rfl ?_ ?_ ?_ | refine qaa (OpW.eql rfl rfl) rfl ?_ ?_ ?_); rfl; rfl) | (refine qbb ?_; refine qaF ?_ ?_ rfl rfl (fun g => ?_); rfl; rfl) | refine qaM ?_ | refine qaC ?_ | refine qar ?_ | refine qam ?_ | refine qag ?_ | refine qan ?_ | refine qal ?_ | refine qai rfl ?_)
    refine qaJ rfl rfl (fun w' hl => ⟨ret_bool hv.symm, hl.mod⟩)
  · by_cases k3 : v.kind = 3
    · have hv : valOk v = decide (v.n = 0) := if_pos (.inr k3)
      repeat (first | refine qaL ?_ | refine qaA ?_ | refine qau ?_ | refine qah ?_ | refine SX.block ?_ | refine qaB ?_ | refine qaw rfl ?_ | refine qax rfl ?_ | (refine qaR ?_; (first | refine qaa (qaE rfl (fun w _ => l01In_any _ _ _ _)) rfl ?_ ?_ ?_); rfl; rfl) | (refine qaN ?_; (first | refine qaa (qad 0 rfl rfl rfl) rfl ?_ ?_ ?_ | refine qaa (qad 1 rfl rfl rfl) rfl ?_ ?_ ?_ | refine qaa (qad 2 rfl rfl rfl) rfl ?_ ?_ ?_ | refine qaa (qad 3 rfl rfl rfl) rfl ?_ ?_ ?_ | refine qaa (qap rfl (by assumption) (fun h => h)) rfl ?_ ?_ ?_); rfl; rfl) | (refine qas ?_; (first | refine qaa (qaj rfl) rfl ?_ ?_ ?_); rfl; rfl) | (refine qay ?_; (first | refine qaa (qao rfl) rfl ?_ ?_ ?_); rfl; rfl) | (refine l_eql ?_; (first | refine qaa (OpW.eqlT rfl rfl (by omega)) rfl ?_ ?_ ?_ | refine qaa (OpW.eqlF rfl rfl (by omega)) rfl ?_ ?_ ?_ | refine qaa (OpW.eql rfl rfl) rfl ?_ ?_ ?_); rfl; rfl) | (refine qbb ?_; refine qaF ?_ ?_ rfl rfl (fun g => ?_); rfl; rfl) | refine qaM ?_ | refine qaC ?_ | refine qar ?_ | refine qam ?_ | refine qag ?_ | refine qan ?_ | refine qal ?_ | refine qai rfl ?_)
      refine qaJ rfl rfl (fun w' hl => ⟨ret_bool hv.symm, hl.mod⟩)
    · by_cases k1 : v.kind = 1
      · have hv : valOk v = inB v.n (-1048576) 1048576 := (if_neg (by omega)).trans (if_pos k1)
        repeat (first | refine qaL ?_ | refine qaA ?_ | refine qau ?_ | refine qah ?_ | refine SX.block ?_ | refine qaB ?_ | refine qaw rfl ?_ | refine qax rfl ?_ | (refine qaR ?_; (first | refine qaa (qaE rfl (fun w _ => l01In_any _ _ _ _)) rfl ?_ ?_ ?_); rfl; rfl) | (refine qaN ?_; (first | refine qaa (qad 0 rfl rfl rfl) rfl ?_ ?_ ?_ | refine qaa (qad 1 rfl rfl rfl) rfl ?_ ?_ ?_ | refine qaa (qad 2 rfl rfl rfl) rfl ?_ ?_ ?_ | refine qaa (qad 3 rfl rfl rfl) rfl ?_ ?_ ?_ | refine qaa (qap rfl (by assumption) (fun h => h)) rfl ?_ ?_ ?_); rfl; rfl) | (refine qas ?_; (first | refine qaa (qaj rfl) rfl ?_ ?_ ?_); rfl; rfl) | (refine qay ?_; (first | refine qaa (qao rfl) rfl ?_ ?_ ?_); rfl; rfl) | (refine l_eql ?_; (first | refine qaa (OpW.eqlT rfl rfl (by omega)) rfl ?_ ?_ ?_ | refine qaa (OpW.eqlF rfl rfl (by omega)) rfl ?_ ?_ ?_ | refine qaa (OpW.eql rfl rfl) rfl ?_ ?_ ?_); rfl; rfl) | (refine qbb ?_; refine qaF ?_ ?_ rfl rfl (fun g => ?_); rfl; rfl) | refine qaM ?_ | refine qaC ?_ | refine qar ?_ | refine qam ?_ | refine qag ?_ | refine qan ?_ | refine qal ?_ | refine qai rfl ?_)
        refine qaJ rfl rfl (fun w' hl => ⟨ret_bool hv.symm, hl.mod⟩)
      · by_cases k2 : v.kind = 2
        · have hv : valOk v = inB v.n (-1000) 1000 := (if_neg (by omega)).trans ((if_neg k1).trans (if_pos k2))
          repeat (first | refine qaL ?_ | refine qaA ?_ | refine qau ?_ | refine qah ?_ | refine SX.block ?_ | refine qaB ?_ | refine qaw rfl ?_ | refine qax rfl ?_ | (refine qaR ?_; (first | refine qaa (qaE rfl (fun w _ => l01In_any _ _ _ _)) rfl ?_ ?_ ?_); rfl; rfl) | (refine qaN ?_; (first | refine qaa (qad 0 rfl rfl rfl) rfl ?_ ?_ ?_ | refine qaa (qad 1 rfl rfl rfl) rfl ?_ ?_ ?_ | refine qaa (qad 2 rfl rfl rfl) rfl ?_ ?_ ?_ | refine qaa (qad 3 rfl rfl rfl) rfl ?_ ?_ ?_ | refine qaa (qap rfl (by assumption) (fun h => h)) rfl ?_ ?_ ?_); rfl; rfl) | (refine qas ?_; (first | refine qaa (qaj rfl) rfl ?_ ?_ ?_); rfl; rfl) | (refine qay ?_; (first | refine qaa (qao rfl) rfl ?_ ?_ ?_); rfl; rfl) | (refine l_eql ?_; (first | refine qaa (OpW.eqlT rfl rfl (by omega)) rfl ?_ ?_ ?_ | refine qaa (OpW.eqlF rfl rfl (by omega)) rfl ?_ ?_ ?_ | refine qaa (OpW.eql rfl rfl) rfl ?_ ?_ ?_); rfl; rfl) | (refine qbb ?_; refine qaF ?_ ?_ rfl rfl (fun g => ?_); rfl; rfl) | refine qaM ?_ | refine qaC ?_ | refine qar ?_ | refine qam ?_ | refine qag ?_ | refine qan ?_ | refine qal ?_ | refine qai rfl ?_)
          refine qaJ rfl rfl (fun w' hl => ⟨ret_bool hv.symm, hl.mod⟩)
        · have hv : valOk v = false := (if_neg (by omega)).trans ((if_neg k1).trans (if_neg k2))
          repeat (first | refine qaL ?_ | refine qaA ?_ | refine qau ?_ | refine qah ?_ | refine SX.block ?_ | refine qaB ?_ | refine qaw rfl ?_ | refine qax rfl ?_ | (refine qaR ?_; (first | refine qaa (qaE rfl (fun w _ => l01In_any _ _ _ _)) rfl ?_ ?_ ?_); rfl; rfl) | (refine qaN ?_; (first | refine qaa (qad 0 rfl rfl rfl) rfl ?_ ?_ ?_ | refine qaa (qad 1 rfl rfl rfl) rfl ?_ ?_ ?_ | refine qaa (qad 2 rfl rfl rfl) rfl ?_ ?_ ?_ | refine qaa (qad 3 rfl rfl rfl) rfl ?_ ?_ ?_ | refine qaa (qap rfl (by assumption) (fun h => h)) rfl ?_ ?_ ?_); rfl; rfl) | (refine qas ?_; (first | refine qaa (qaj rfl) rfl ?_ ?_ ?_); rfl; rfl) | (refine qay ?_; (first | refine qaa (qao rfl) rfl ?_ ?_ ?_); rfl; rfl) | (refine l_eql ?_; (first | refine qaa (OpW.eqlT rfl rfl (by omega)) rfl ?_ ?_ ?_ | refine qaa (OpW.eqlF rfl rfl (by omega)) rfl ?_ ?_ ?_ | refine qaa (OpW.eql rfl rfl) rfl ?_ ?_ ?_); rfl; rfl) | (refine qbb ?_; refine qaF ?_ ?_ rfl rfl (fun g => ?_); rfl; rfl) | refine qaM ?_ | refine qaC ?_ | refine qar ?_ | refine qam ?_ | refine qag ?_ | refine qan ?_ | refine qal ?_ | refine qai rfl ?_)
          refine qaJ rfl rfl (fun w' hl => ⟨ret_bool hv.symm, hl.mod⟩)

set_option maxRecDepth 100000 in
set_option maxHeartbeats 4000000 in
theorem ssizeOk_any (v : Val) (w : World) : Calls Tryd.prog 120 #[.agg #[.int .i64 v.kind, .int .i64 v.n]] w fun e w' => e = .returned (.bool (sizeOk v)) ∧ Mod (fun _ => False) w w' := by
  refine calls_sx Tryd.func120 rfl rfl (fun a h1 h2 h3 => ((Fr.nil h1 h2).arg (h3 0 _ rfl))) ?_
  cases q0 : valOk v
  · have hv : sizeOk v = false := by simp [sizeOk, q0]
    repeat (first | refine qaL ?_ | refine qaA ?_ | refine qau ?_ | refine qah ?_ | refine SX.block ?_ | refine qaB ?_ | refine qaw rfl ?_ | refine qax rfl ?_ | (refine qaW rfl rfl rfl ?_) | (refine qaR ?_; (first | refine qaa (qak rfl (fun w hl => svalueOk_any v _)) rfl ?_ ?_ ?_ | refine qaa (qak rfl (fun w hl => svalueOk_any _ _)) rfl ?_ ?_ ?_); rfl; rfl) | (refine qaN ?_; (first | refine qaa (qad 0 rfl rfl rfl) rfl ?_ ?_ ?_ | refine qaa (qad 1 rfl rfl rfl) rfl ?_ ?_ ?_ | refine qaa (qad 2 rfl rfl rfl) rfl ?_ ?_ ?_ | refine qaa (qad 3 rfl rfl rfl) rfl ?_ ?_ ?_ | refine qaa (qap rfl (by assumption) (fun h => h)) rfl ?_ ?_ ?_ | refine qaa (qac 0 rfl rfl rfl) rfl ?_ ?_ ?_ | refine qaa (qac 1 rfl rfl rfl) rfl ?_ ?_ ?_ | refine qaa (qac 2 rfl rfl rfl) rfl ?_ ?_ ?_ | refine qaa (qac 3 rfl rfl rfl) rfl ?_ ?_ ?_ | refine qaa (qab 0 rfl rfl rfl rfl) rfl ?_ ?_ ?_ | refine qaa (qab 1 rfl rfl rfl rfl) rfl ?_ ?_ ?_ | refine qaa (qab 2 rfl rfl rfl rfl) rfl ?_ ?_ ?_ | refine qaa (qab 3 rfl rfl rfl rfl) rfl ?_ ?_ ?_); rfl; rfl) | (refine qas ?_; (first | refine qaa (qaj rfl) rfl ?_ ?_ ?_); rfl; rfl) | (refine qaP ?_; (first | refine qaa (qav rfl) rfl ?_ ?_ ?_); rfl; rfl) | (refine qay ?_; (first | refine qaa (qao rfl) rfl ?_ ?_ ?_); rfl; rfl) | (refine l_geq ?_; (first | refine qaa (OpW.geqT rfl rfl (by omega)) rfl ?_ ?_ ?_ | refine qaa (OpW.geqF rfl rfl (by omega)) rfl ?_ ?_ ?_ | refine qaa (OpW.geq rfl rfl) rfl ?_ ?_ ?_); rfl; rfl) | (refine qaV ?_; (first | refine qaa (qaD rfl rfl rfl) rfl ?_ ?_ ?_); rfl; rfl) | (refine qbb ?_; refine qaF ?_ ?_ rfl rfl (fun g => ?_); rfl; rfl) | (rw [q0]) | refine qaM ?_ | refine qaC ?_ | refine qar ?_ | refine qam ?_ | refine qag ?_ | refine qan ?_ | refine qal ?_ | refine qai rfl ?_)
    refine qaJ rfl rfl (fun w' hl => ⟨ret_bool hv.symm, hl.mod⟩)
  · have hv : sizeOk v = decide (0 ≤ v.n) := by simp [sizeOk, q0]
    repeat (first | refine qaL ?_ | refine qaA ?_ | refine qau ?_ | refine qah ?_ | refine SX.block ?_ | refine qaB ?_ | refine qaw rfl ?_ | refine qax rfl ?_ | (refine qaW rfl rfl rfl ?_) | (refine qaR ?_; (first | refine qaa (qak rfl (fun w hl => svalueOk_any v _)) rfl ?_ ?_ ?_ | refine qaa (qak rfl (fun w hl => svalueOk_any _ _)) rfl ?_ ?_ ?_); rfl; rfl) | (refine qaN ?_; (first | refine qaa (qad 0 rfl rfl rfl) rfl ?_ ?_ ?_ | refine qaa (qad 1 rfl rfl rfl) rfl ?_ ?_ ?_ | refine qaa (qad 2 rfl rfl rfl) rfl ?_ ?_ ?_ | refine qaa (qad 3 rfl rfl rfl) rfl ?_ ?_ ?_ | refine qaa (qap rfl (by assumption) (fun h => h)) rfl ?_ ?_ ?_ | refine qaa (qac 0 rfl rfl rfl) rfl ?_ ?_ ?_ | refine qaa (qac 1 rfl rfl rfl) rfl ?_ ?_ ?_ | refine qaa (qac 2 rfl rfl rfl) rfl ?_ ?_ ?_ | refine qaa (qac 3 rfl rfl rfl) rfl ?_ ?_ ?_ | refine qaa (qab 0 rfl rfl rfl rfl) rfl ?_ ?_ ?_ | refine qaa (qab 1 rfl rfl rfl rfl) rfl ?_ ?_ ?_ | refine qaa (qab 2 rfl rfl rfl rfl) rfl ?_ ?_ ?_ | refine qaa (qab 3 rfl rfl rfl rfl) rfl ?_ ?_ ?_); rfl; rfl) | (refine qas ?_; (first | refine qaa (qaj rfl) rfl ?_ ?_ ?_); rfl; rfl) | (refine qaP ?_; (first | refine qaa (qav rfl) rfl ?_ ?_ ?_); rfl; rfl) | (refine qay ?_; (first | refine qaa (qao rfl) rfl ?_ ?_ ?_); rfl; rfl) | (refine l_geq ?_; (first | refine qaa (OpW.geqT rfl rfl (by omega)) rfl ?_ ?_ ?_ | refine qaa (OpW.geqF rfl rfl (by omega)) rfl ?_ ?_ ?_ | refine qaa (OpW.geq rfl rfl) rfl ?_ ?_ ?_); rfl; rfl) | (refine qaV ?_; (first | refine qaa (qaD rfl rfl rfl) rfl ?_ ?_ ?_); rfl; rfl) | (refine qbb ?_; refine qaF ?_ ?_ rfl rfl (fun g => ?_); rfl; rfl) | (rw [q0]) | refine qaM ?_ | refine qaC ?_ | refine qar ?_ | refine qam ?_ | refine qag ?_ | refine qan ?_ | refine qal ?_ | refine qai rfl ?_)
    refine qaJ rfl rfl (fun w' hl => ⟨ret_bool hv.symm, hl.mod⟩)

set_option maxRecDepth 100000 in
set_option maxHeartbeats 4000000 in
theorem sedgesOk_any (x : Edges) (w : World) : Calls Tryd.prog 122 #[.agg #[.int .i64 x.left, .int .i64 x.top, .int .i64 x.right, .int .i64 x.bottom]] w fun e w' => e = .returned (.bool (edgesOk x)) ∧ Mod (fun _ => False) w w' := by
  refine calls_sx Tryd.func122 rfl rfl (fun a h1 h2 h3 => ((Fr.nil h1 h2).arg (h3 0 _ rfl))) ?_
  cases q0 : inB x.left 0 1048576
  · have hv : edgesOk x = false := by simp [edgesOk, q0]
    repeat (first | refine qaL ?_ | refine qaA ?_ | refine qau ?_ | refine qah ?_ | refine SX.block ?_ | refine qaB ?_ | refine qaw rfl ?_ | refine qax rfl ?_ | (refine qaW rfl rfl rfl ?_) | (refine qaR ?_; (first | refine qaa (qaE rfl (fun w _ => l01In_any _ _ _ _)) rfl ?_ ?_ ?_); rfl; rfl) | (refine qaN ?_; (first | refine qaa (qad 0 rfl rfl rfl) rfl ?_ ?_ ?_ | refine qaa (qad 1 rfl rfl rfl) rfl ?_ ?_ ?_ | refine qaa (qad 2 rfl rfl rfl) rfl ?_ ?_ ?_ | refine qaa (qad 3 rfl rfl rfl) rfl ?_ ?_ ?_ | refine qaa (qap rfl (by assumption) (fun h => h)) rfl ?_ ?_ ?_); rfl; rfl) | (refine qas ?_; (first | refine qaa (qaj rfl) rfl ?_ ?_ ?_); rfl; rfl) | (refine qaP ?_; (first | refine qaa (qav rfl) rfl ?_ ?_ ?_); rfl; rfl) | (refine qay ?_; (first | refine qaa (qao rfl) rfl ?_ ?_ ?_); rfl; rfl) | (refine qaV ?_; (first | refine qaa (qaD rfl rfl rfl) rfl ?_ ?_ ?_); rfl; rfl) | (refine qbb ?_; refine qaF ?_ ?_ rfl rfl (fun g => ?_); rfl; rfl) | (rw [q0]) | refine qaM ?_ | refine qaC ?_ | refine qar ?_ | refine qam ?_ | refine qag ?_ | refine qan ?_ | refine qal ?_ | refine qai rfl ?_)
    refine qaJ rfl rfl (fun w' hl => ⟨ret_bool hv.symm, hl.mod⟩)
  cases q1 : inB x.top 0 1048576
  · have hv : edgesOk x = false := by simp [edgesOk, q0, q1]
    repeat (first | refine qaL ?_ | refine qaA ?_ | refine qau ?_ | refine qah ?_ | refine SX.block ?_ | refine qaB ?_ | refine qaw rfl ?_ | refine qax rfl ?_ | (refine qaW rfl rfl rfl ?_) | (refine qaR ?_; (first | refine qaa (qaE rfl (fun w _ => l01In_any _ _ _ _)) rfl ?_ ?_ ?_); rfl; rfl) | (refine qaN ?_; (first | refine qaa (qad 0 rfl rfl rfl) rfl ?_ ?_ ?_ | refine qaa (qad 1 rfl rfl rfl) rfl ?_ ?_ ?_ | refine qaa (qad 2 rfl rfl rfl) rfl ?_ ?_ ?_ | refine qaa (qad 3 rfl rfl rfl) rfl ?_ ?_ ?_ | refine qaa (qap rfl (by assumption) (fun h => h)) rfl ?_ ?_ ?_); rfl; rfl) | (refine qas ?_; (first | refine qaa (qaj rfl) rfl ?_ ?_ ?_); rfl; rfl) | (refine qaP ?_; (first | refine qaa (qav rfl) rfl ?_ ?_ ?_); rfl; rfl) | (refine qay ?_; (first | refine qaa (qao rfl) rfl ?_ ?_ ?_); rfl; rfl) | (refine qaV ?_; (first | refine qaa (qaD rfl rfl rfl) rfl ?_ ?_ ?_); rfl; rfl) | (refine qbb ?_; refine qaF ?_ ?_ rfl rfl (fun g => ?_); rfl; rfl) | ((first | rw [q0] | rw [q1])) | refine qaM ?_ | refine qaC ?_ | refine qar ?_ | refine qam ?_ | refine qag ?_ | refine qan ?_ | refine qal ?_ | refine qai rfl ?_)
    refine qaJ rfl rfl (fun w' hl => ⟨ret_bool hv.symm, hl.mod⟩)
  cases q2 : inB x.right 0 1048576
  · have hv : edgesOk x = false := by simp [edgesOk, q0, q1, q2]
    repeat (first | refine qaL ?_ | refine qaA ?_ | refine qau ?_ | refine qah ?_ | refine SX.block ?_ | refine qaB ?_ | refine qaw rfl ?_ | refine qax rfl ?_ | (refine qaW rfl rfl rfl ?_) | (refine qaR ?_; (first | refine qaa (qaE rfl (fun w _ => l01In_any _ _ _ _)) rfl ?_ ?_ ?_); rfl; rfl) | (refine qaN ?_; (first | refine qaa (qad 0 rfl rfl rfl) rfl ?_ ?_ ?_ | refine qaa (qad 1 rfl rfl rfl) rfl ?_ ?_ ?_ | refine qaa (qad 2 rfl rfl rfl) rfl ?_ ?_ ?_ | refine qaa (qad 3 rfl rfl rfl) rfl ?_ ?_ ?_ | refine qaa (qap rfl (by assumption) (fun h => h)) rfl ?_ ?_ ?_); rfl; rfl) | (refine qas ?_; (first | refine qaa (qaj rfl) rfl ?_ ?_ ?_); rfl; rfl) | (refine qaP ?_; (first | refine qaa (qav rfl) rfl ?_ ?_ ?_); rfl; rfl) | (refine qay ?_; (first | refine qaa (qao rfl) rfl ?_ ?_ ?_); rfl; rfl) | (refine qaV ?_; (first | refine qaa (qaD rfl rfl rfl) rfl ?_ ?_ ?_); rfl; rfl) | (refine qbb ?_; refine qaF ?_ ?_ rfl rfl (fun g => ?_); rfl; rfl) | ((first | rw [q0] | rw [q1] | rw [q2])) | refine qaM ?_ | refine qaC ?_ | refine qar ?_ | refine qam ?_ | refine qag ?_ | refine qan ?_ | refine qal ?_ | refine qai rfl ?_)
    refine qaJ rfl rfl (fun w' hl => ⟨ret_bool hv.symm, hl.mod⟩)
  cases q3 : inB x.bottom 0 1048576
  · have hv : edgesOk x = false := by simp [edgesOk, q0, q1, q2, q3]
    repeat (first | refine qaL ?_ | refine qaA ?_ | refine qau ?_ | refine qah ?_ | refine SX.block ?_ | refine qaB ?_ | refine qaw rfl ?_ | refine qax rfl ?_ | (refine qaW rfl rfl rfl ?_) | (refine qaR ?_; (first | refine qaa (qaE rfl (fun w _ => l01In_any _ _ _ _)) rfl ?_ ?_ ?_); rfl; rfl) | (refine qaN ?_; (first | refine qaa (qad 0 rfl rfl rfl) rfl ?_ ?_ ?_ | refine qaa (qad 1 rfl rfl rfl) rfl ?_ ?_ ?_ | refine qaa (qad 2 rfl rfl rfl) rfl ?_ ?_ ?_ | refine qaa (qad 3 rfl rfl rfl) rfl ?_ ?_ ?_ | refine qaa (qap rfl (by assumption) (fun h => h)) rfl ?_ ?_ ?_); rfl; rfl) | (refine qas ?_; (first | refine qaa (qaj rfl) rfl ?_ ?_ ?_); rfl; rfl) | (refine qaP ?_; (first | refine qaa (qav rfl) rfl ?_ ?_ ?_); rfl; rfl) | (refine qay ?_; (first | refine qaa (qao rfl) rfl ?_ ?_ ?_); rfl; rfl) | (refine qaV ?_; (first | refine qaa (qaD rfl rfl rfl) rfl ?_ ?_ ?_); rfl; rfl) | (refine qbb ?_; refine qaF ?_ ?_ rfl rfl (fun g => ?_); rfl; rfl) | ((first | rw [q0] | rw [q1] | rw [q2] | rw [q3])) | refine qaM ?_ | refine qaC ?_ | refine qar ?_ | refine qam ?_ | refine qag ?_ | refine qan ?_ | refine qal ?_ | refine qai rfl ?_)
    refine qaJ rfl rfl (fun w' hl => ⟨ret_bool hv.symm, hl.mod⟩)
  have hv : edgesOk x = true := by simp [edgesOk, q0, q1, q2, q3]
  repeat (first | refine qaL ?_ | refine qaA ?_ | refine qau ?_ | refine qah ?_ | refine SX.block ?_ | refine qaB ?_ | refine qaw rfl ?_ | refine qax rfl ?_ | (refine qaW rfl rfl rfl ?_) | (refine qaR ?_; (first | refine qaa (qaE rfl (fun w _ => l01In_any _ _ _ _)) rfl ?_ ?_ ?_); rfl; rfl) | (refine qaN ?_; (first | refine qaa (qad 0 rfl rfl rfl) rfl ?_ ?_ ?_ | refine qaa (qad 1 rfl rfl rfl) rfl ?_ ?_ ?_ | refine qaa (qad 2 rfl rfl rfl) rfl ?_ ?_ ?_ | refine qaa (qad 3 rfl rfl rfl) rfl ?_ ?_ ?_ | refine qaa (qap rfl (by assumption) (fun h => h)) rfl ?_ ?_ ?_); rfl; rfl) | (refine qas ?_; (first | refine qaa (qaj rfl) rfl ?_ ?_ ?_); rfl; rfl) | (refine qaP ?_; (first | refine qaa (qav rfl) rfl ?_ ?_ ?_); rfl; rfl) | (refine qay ?_; (first | refine qaa (qao rfl) rfl ?_ ?_ ?_); rfl; rfl) | (refine qaV ?_; (first | refine qaa (qaD rfl rfl rfl) rfl ?_ ?_ ?_); rfl; rfl) | (refine qbb ?_; refine qaF ?_ ?_ rfl rfl (fun g => ?_); rfl; rfl) | ((first | rw [q0] | rw [q1] | rw [q2] | rw [q3])) | refine qaM ?_ | refine qaC ?_ | refine qar ?_ | refine qam ?_ | refine qag ?_ | refine qan ?_ | refine qal ?_ | refine qai rfl ?_)
  refine qaJ rfl rfl (fun w' hl => ⟨ret_bool hv.symm, hl.mod⟩)

set_option maxRecDepth 100000 in
set_option maxHeartbeats 4000000 in
theorem ssidesOk_any (x : Sides) (w : World) : Calls Tryd.prog 121 #[.agg #[.int .i64 x.left.kind, .int .i64 x.left.n, .int .i64 x.top.kind, .int .i64 x.top.n, .int .i64 x.right.kind, .int .i64 x.right.n, .int .i64 x.bottom.kind, .int .i64 x.bottom.n, .int .i64 x.start.kind, .int .i64 x.start.n, .int .i64 x.stop.kind, .int .i64 x.stop.n]] w fun e w' => e = .returned (.bool (sidesOk x)) ∧ Mod (fun _ => False) w w' := by
  refine calls_sx Tryd.func121 rfl rfl (fun a h1 h2 h3 => ((Fr.nil h1 h2).arg (h3 0 _ rfl))) ?_
  cases q0 : valOk x.left
  · have hv : sidesOk x = false := by simp [sidesOk, q0]
    repeat (first | refine qaL ?_ | refine qaA ?_ | refine qau ?_ | refine qah ?_ | refine SX.block ?_ | refine qaB ?_ | refine qaw rfl ?_ | refine qax rfl ?_ | (refine qaW rfl rfl rfl ?_) | (refine qaR ?_; (first | refine qaa (qak rfl (fun w hl => svalueOk_any _ _)) rfl ?_ ?_ ?_); rfl; rfl) | (refine qaN ?_; (first | refine qaa (qac 0 rfl rfl rfl) rfl ?_ ?_ ?_ | refine qaa (qac 1 rfl rfl rfl) rfl ?_ ?_ ?_ | refine qaa (qac 2 rfl rfl rfl) rfl ?_ ?_ ?_ | refine qaa (qac 3 rfl rfl rfl) rfl ?_ ?_ ?_ | refine qaa (qab 0 rfl rfl rfl rfl) rfl ?_ ?_ ?_ | refine qaa (qab 1 rfl rfl rfl rfl) rfl ?_ ?_ ?_ | refine qaa (qab 2 rfl rfl rfl rfl) rfl ?_ ?_ ?_ | refine qaa (qab 3 rfl rfl rfl rfl) rfl ?_ ?_ ?_); rfl; rfl) | (refine qas ?_; (first | refine qaa (qaj rfl) rfl ?_ ?_ ?_); rfl; rfl) | (refine qaP ?_; (first | refine qaa (qav rfl) rfl ?_ ?_ ?_); rfl; rfl) | (refine qay ?_; (first | refine qaa (qao rfl) rfl ?_ ?_ ?_); rfl; rfl) | (refine qaV ?_; (first | refine qaa (qaD rfl rfl rfl) rfl ?_ ?_ ?_); rfl; rfl) | (refine qbb ?_; refine qaF ?_ ?_ rfl rfl (fun g => ?_); rfl; rfl) | (rw [q0]) | refine qaM ?_ | refine qaC ?_ | refine qar ?_ | refine qam ?_ | refine qag ?_ | refine qan ?_ | refine qal ?_ | refine qai rfl ?_)
    refine qaJ rfl rfl (fun w' hl => ⟨ret_bool hv.symm, hl.mod⟩)
  cases q1 : valOk x.top
  · have hv : sidesOk x = false := by simp [sidesOk, q0, q1]
    repeat (first | refine qaL ?_ | refine qaA ?_ | refine qau ?_ | refine qah ?_ | refine SX.block ?_ | refine qaB ?_ | refine qaw rfl ?_ | refine qax rfl ?_ | (refine qaW rfl rfl rfl ?_) | (refine qaR ?_; (first | refine qaa (qak rfl (fun w hl => svalueOk_any _ _)) rfl ?_ ?_ ?_); rfl; rfl) | (refine qaN ?_; (first | refine qaa (qac 0 rfl rfl rfl) rfl ?_ ?_ ?_ | refine qaa (qac 1 rfl rfl rfl) rfl ?_ ?_ ?_ | refine qaa (qac 2 rfl rfl rfl) rfl ?_ ?_ ?_ | refine qaa (qac 3 rfl rfl rfl) rfl ?_ ?_ ?_ | refine qaa (qab 0 rfl rfl rfl rfl) rfl ?_ ?_ ?_ | refine qaa (qab 1 rfl rfl rfl rfl) rfl ?_ ?_ ?_ | refine qaa (qab 2 rfl rfl rfl rfl) rfl ?_ ?_ ?_ | refine qaa (qab 3 rfl rfl rfl rfl) rfl ?_ ?_ ?_); rfl; rfl) | (refine qas ?_; (first | refine qaa (qaj rfl) rfl ?_ ?_ ?_); rfl; rfl) | (refine qaP ?_; (first | refine qaa (qav rfl) rfl ?_ ?_ ?_); rfl; rfl) | (refine qay ?_; (first | refine qaa (qao rfl) rfl ?_ ?_ ?_); rfl; rfl) | (refine qaV ?_; (first | refine qaa (qaD rfl rfl rfl) rfl ?_ ?_ ?_); rfl; rfl) | (refine qbb ?_; refine qaF ?_ ?_ rfl rfl (fun g => ?_); rfl; rfl) | ((first | rw [q0] | rw [q1])) | refine qaM ?_ | refine qaC ?_ | refine qar ?_ | refine qam ?_ | refine qag ?_ | refine qan ?_ | refine qal ?_ | refine qai rfl ?_)
    refine qaJ rfl rfl (fun w' hl => ⟨ret_bool hv.symm, hl.mod⟩)
  cases q2 : valOk x.right
  · have hv : sidesOk x = false := by simp [sidesOk, q0, q1, q2]
    repeat (first | refine qaL ?_ | refine qaA ?_ | refine qau ?_ | refine qah ?_ | refine SX.block ?_ | refine qaB ?_ | refine qaw rfl ?_ | refine qax rfl ?_ | (refine qaW rfl rfl rfl ?_) | (refine qaR ?_; (first | refine qaa (qak rfl (fun w hl => svalueOk_any _ _)) rfl ?_ ?_ ?_); rfl; rfl) | (refine qaN ?_; (first | refine qaa (qac 0 rfl rfl rfl) rfl ?_ ?_ ?_ | refine qaa (qac 1 rfl rfl rfl) rfl ?_ ?_ ?_ | refine qaa (qac 2 rfl rfl rfl) rfl ?_ ?_ ?_ | refine qaa (qac 3 rfl rfl rfl) rfl ?_ ?_ ?_ | refine qaa (qab 0 rfl rfl rfl rfl) rfl ?_ ?_ ?_ | refine qaa (qab 1 rfl rfl rfl rfl) rfl ?_ ?_ ?_ | refine qaa (qab 2 rfl rfl rfl rfl) rfl ?_ ?_ ?_ | refine qaa (qab 3 rfl rfl rfl rfl) rfl ?_ ?_ ?_); rfl; rfl) | (refine qas ?_; (first | refine qaa (qaj rfl) rfl ?_ ?_ ?_); rfl; rfl) | (refine qaP ?_; (first | refine qaa (qav rfl) rfl ?_ ?_ ?_); rfl; rfl) | (refine qay ?_; (first | refine qaa (qao rfl) rfl ?_ ?_ ?_); rfl; rfl) | (refine qaV ?_; (first | refine qaa (qaD rfl rfl rfl) rfl ?_ ?_ ?_); rfl; rfl) | (refine qbb ?_; refine qaF ?_ ?_ rfl rfl (fun g => ?_); rfl; rfl) | ((first | rw [q0] | rw [q1] | rw [q2])) | refine qaM ?_ | refine qaC ?_ | refine qar ?_ | refine qam ?_ | refine qag ?_ | refine qan ?_ | refine qal ?_ | refine qai rfl ?_)
    refine qaJ rfl rfl (fun w' hl => ⟨ret_bool hv.symm, hl.mod⟩)
  cases q3 : valOk x.bottom
  · have hv : sidesOk x = false := by simp [sidesOk, q0, q1, q2, q3]
    repeat (first | refine qaL ?_ | refine qaA ?_ | refine qau ?_ | refine qah ?_ | refine SX.block ?_ | refine qaB ?_ | refine qaw rfl ?_ | refine qax rfl ?_ | (refine qaW rfl rfl rfl ?_) | (refine qaR ?_; (first | refine qaa (qak rfl (fun w hl => svalueOk_any _ _)) rfl ?_ ?_ ?_); rfl; rfl) | (refine qaN ?_; (first | refine qaa (qac 0 rfl rfl rfl) rfl ?_ ?_ ?_ | refine qaa (qac 1 rfl rfl rfl) rfl ?_ ?_ ?_ | refine qaa (qac 2 rfl rfl rfl) rfl ?_ ?_ ?_ | refine qaa (qac 3 rfl rfl rfl) rfl ?_ ?_ ?_ | refine qaa (qab 0 rfl rfl rfl rfl) rfl ?_ ?_ ?_ | refine qaa (qab 1 rfl rfl rfl rfl) rfl ?_ ?_ ?_ | refine qaa (qab 2 rfl rfl rfl rfl) rfl ?_ ?_ ?_ | refine qaa (qab 3 rfl rfl rfl rfl) rfl ?_ ?_ ?_); rfl; rfl) | (refine qas ?_; (first | refine qaa (qaj rfl) rfl ?_ ?_ ?_); rfl; rfl) | (refine qaP ?_; (first | refine qaa (qav rfl) rfl ?_ ?_ ?_); rfl; rfl) | (refine qay ?_; (first | refine qaa (qao rfl) rfl ?_ ?_ ?_); rfl; rfl) | (refine qaV ?_; (first | refine qaa (qaD rfl rfl rfl) rfl ?_ ?_ ?_); rfl; rfl) | (refine qbb ?_; refine qaF ?_ ?_ rfl rfl (fun g => ?_); rfl; rfl) | ((first | rw [q0] | rw [q1] | rw [q2] | rw [q3])) | refine qaM ?_ | refine qaC ?_ | refine qar ?_ | refine qam ?_ | refine qag ?_ | refine qan ?_ | refine qal ?_ | refine qai rfl ?_)
    refine qaJ rfl rfl (fun w' hl => ⟨ret_bool hv.symm, hl.mod⟩)
  cases q4 : valOk x.start
  · have hv : sidesOk x = false := by simp [sidesOk, q0, q1, q2, q3, q4]
    repeat (first | refine qaL ?_ | refine qaA ?_ | refine qau ?_ | refine qah ?_ | refine SX.block ?_ | refine qaB ?_ | refine qaw rfl ?_ | refine qax rfl ?_ | (refine qaW rfl rfl rfl ?_) | (refine qaR ?_; (first | refine qaa (qak rfl (fun w hl => svalueOk_any _ _)) rfl ?_ ?_ ?_); rfl; rfl) | (refine qaN ?_; (first | refine qaa (qac 0 rfl rfl rfl) rfl ?_ ?_ ?_ | refine qaa (qac 1 rfl rfl rfl) rfl ?_ ?_ ?_ | refine qaa (qac 2 rfl rfl rfl) rfl ?_ ?_ ?_ | refine qaa (qac 3 rfl rfl rfl) rfl ?_ ?_ ?_ | refine qaa (qab 0 rfl rfl rfl rfl) rfl ?_ ?_ ?_ | refine qaa (qab 1 rfl rfl rfl rfl) rfl ?_ ?_ ?_ | refine qaa (qab 2 rfl rfl rfl rfl) rfl ?_ ?_ ?_ | refine qaa (qab 3 rfl rfl rfl rfl) rfl ?_ ?_ ?_); rfl; rfl) | (refine qas ?_; (first | refine qaa (qaj rfl) rfl ?_ ?_ ?_); rfl; rfl) | (refine qaP ?_; (first | refine qaa (qav rfl) rfl ?_ ?_ ?_); rfl; rfl) | (refine qay ?_; (first | refine qaa (qao rfl) rfl ?_ ?_ ?_); rfl; rfl) | (refine qaV ?_; (first | refine qaa (qaD rfl rfl rfl) rfl ?_ ?_ ?_); rfl; rfl) | (refine qbb ?_; refine qaF ?_ ?_ rfl rfl (fun g => ?_); rfl; rfl) | ((first | rw [q0] | rw [q1] | rw [q2] | rw [q3] | rw [q4])) | refine qaM ?_ | refine qaC ?_ | refine qar ?_ | refine qam ?_ | refine qag ?_ | refine qan ?_ | refine qal ?_ | refine qai rfl ?_)
    refine qaJ rfl rfl (fun w' hl => ⟨ret_bool hv.symm, hl.mod⟩)
  cases q5 : valOk x.stop
  · have hv : sidesOk x = false := by simp [sidesOk, q0, q1, q2, q3, q4, q5]
    repeat (first | refine qaL ?_ | refine qaA ?_ | refine qau ?_ | refine qah ?_ | refine SX.block ?_ | refine qaB ?_ | refine qaw rfl ?_ | refine qax rfl ?_ | (refine qaW rfl rfl rfl ?_) | (refine qaR ?_; (first | refine qaa (qak rfl (fun w hl => svalueOk_any _ _)) rfl ?_ ?_ ?_); rfl; rfl) | (refine qaN ?_; (first | refine qaa (qac 0 rfl rfl rfl) rfl ?_ ?_ ?_ | refine qaa (qac 1 rfl rfl rfl) rfl ?_ ?_ ?_ | refine qaa (qac 2 rfl rfl rfl) rfl ?_ ?_ ?_ | refine qaa (qac 3 rfl rfl rfl) rfl ?_ ?_ ?_ | refine qaa (qab 0 rfl rfl rfl rfl) rfl ?_ ?_ ?_ | refine qaa (qab 1 rfl rfl rfl rfl) rfl ?_ ?_ ?_ | refine qaa (qab 2 rfl rfl rfl rfl) rfl ?_ ?_ ?_ | refine qaa (qab 3 rfl rfl rfl rfl) rfl ?_ ?_ ?_); rfl; rfl) | (refine qas ?_; (first | refine qaa (qaj rfl) rfl ?_ ?_ ?_); rfl; rfl) | (refine qaP ?_; (first | refine qaa (qav rfl) rfl ?_ ?_ ?_); rfl; rfl) | (refine qay ?_; (first | refine qaa (qao rfl) rfl ?_ ?_ ?_); rfl; rfl) | (refine qaV ?_; (first | refine qaa (qaD rfl rfl rfl) rfl ?_ ?_ ?_); rfl; rfl) | (refine qbb ?_; refine qaF ?_ ?_ rfl rfl (fun g => ?_); rfl; rfl) | ((first | rw [q0] | rw [q1] | rw [q2] | rw [q3] | rw [q4] | rw [q5])) | refine qaM ?_ | refine qaC ?_ | refine qar ?_ | refine qam ?_ | refine qag ?_ | refine qan ?_ | refine qal ?_ | refine qai rfl ?_)
    refine qaJ rfl rfl (fun w' hl => ⟨ret_bool hv.symm, hl.mod⟩)
  have hv : sidesOk x = true := by simp [sidesOk, q0, q1, q2, q3, q4, q5]
  repeat (first | refine qaL ?_ | refine qaA ?_ | refine qau ?_ | refine qah ?_ | refine SX.block ?_ | refine qaB ?_ | refine qaw rfl ?_ | refine qax rfl ?_ | (refine qaW rfl rfl rfl ?_) | (refine qaR ?_; (first | refine qaa (qak rfl (fun w hl => svalueOk_any _ _)) rfl ?_ ?_ ?_); rfl; rfl) | (refine qaN ?_; (first | refine qaa (qac 0 rfl rfl rfl) rfl ?_ ?_ ?_ | refine qaa (qac 1 rfl rfl rfl) rfl ?_ ?_ ?_ | refine qaa (qac 2 rfl rfl rfl) rfl ?_ ?_ ?_ | refine qaa (qac 3 rfl rfl rfl) rfl ?_ ?_ ?_ | refine qaa (qab 0 rfl rfl rfl rfl) rfl ?_ ?_ ?_ | refine qaa (qab 1 rfl rfl rfl rfl) rfl ?_ ?_ ?_ | refine qaa (qab 2 rfl rfl rfl rfl) rfl ?_ ?_ ?_ | refine qaa (qab 3 rfl rfl rfl rfl) rfl ?_ ?_ ?_); rfl; rfl) | (refine qas ?_; (first | refine qaa (qaj rfl) rfl ?_ ?_ ?_); rfl; rfl) | (refine qaP ?_; (first | refine qaa (qav rfl) rfl ?_ ?_ ?_); rfl; rfl) | (refine qay ?_; (first | refine qaa (qao rfl) rfl ?_ ?_ ?_); rfl; rfl) | (refine qaV ?_; (first | refine qaa (qaD rfl rfl rfl) rfl ?_ ?_ ?_); rfl; rfl) | (refine qbb ?_; refine qaF ?_ ?_ rfl rfl (fun g => ?_); rfl; rfl) | ((first | rw [q0] | rw [q1] | rw [q2] | rw [q3] | rw [q4] | rw [q5])) | refine qaM ?_ | refine qaC ?_ | refine qar ?_ | refine qam ?_ | refine qag ?_ | refine qan ?_ | refine qal ?_ | refine qai rfl ?_)
  refine qaJ rfl rfl (fun w' hl => ⟨ret_bool hv.symm, hl.mod⟩)


end Go.Proofs.YthffgbhphjkdeaaDoor
namespace Go.Proofs.YthffgbhphjkdeaaDoor
open Go.RowKit

theorem Style.len (s : Style) : s.cells.length = 60 := rfl
theorem Style.ones (s : Style) : s.cells.toArray.all (·.oneCell') = true := by simp [Style.cells, Value.oneCell']
@[go_sem] theorem Style.set54 (s : Style) (v : Int) : s.cells.set 54 (.int .i64 v) = Style.cells { s with border := { s.border with left := v } } := rfl
@[go_sem] theorem Style.set55 (s : Style) (v : Int) : s.cells.set 55 (.int .i64 v) = Style.cells { s with border := { s.border with top := v } } := rfl
@[go_sem] theorem Style.set56 (s : Style) (v : Int) : s.cells.set 56 (.int .i64 v) = Style.cells { s with border := { s.border with right := v } } := rfl
@[go_sem] theorem Style.set57 (s : Style) (v : Int) : s.cells.set 57 (.int .i64 v) = Style.cells { s with border := { s.border with bottom := v } } := rfl
@[go_sem] theorem Style.set58 (s : Style) (v : Int) : s.cells.set 58 (.int .i64 v) = Style.cells { s with rowGap := v } := rfl
@[go_sem] theorem Style.set59 (s : Style) (v : Int) : s.cells.set 59 (.int .i64 v) = Style.cells { s with colGap := v } := rfl
theorem spl_mid (a x b y : List Value) (h : x.length = y.length) : spl (a ++ x ++ b).toArray a.length y = (a ++ y ++ b).toArray := by
  induction y generalizing a x with
  | nil =>
    cases x with
    | nil => rfl
    | cons v x => simp at h
  | cons u y ih =>
    cases x with
    | nil => simp at h
    | cons v x =>
      simp only [List.length_cons, Nat.add_right_cancel_iff] at h
      have e : (a ++ (v :: x) ++ b).toArray.setIfInBounds a.length u = ((a ++ [u]) ++ x ++ b).toArray := by simp
      have h1 := ih (a ++ [u]) x h
      rw [spl_cons, e]
      simpa using h1
theorem row_blk {w : World} {b : Nat} {l : List Value} {T : TypeId} (h : w.heap[b]? = some (.cells l.toArray T (0, 0))) (o n : Nat) (hn : o + n ≤ l.length) :
    hasRow w b o n = true ∧ rowOf w b o n = ((l.drop o).take n).toArray ∧ openRow w b = true := by
  refine ⟨by simp [hasRow, h, hn], ?_, by simp [openRow, h]⟩
  unfold rowOf
  rw [h]
  simp
@[go_sem ↓] theorem exec_load_lStyle (ρ : Operand → Value) (d : Option Tmp) (x : Operand) (ty : TypeId) (pos : String) (af : Array Edge) (g : Option (Nat × Bool)) (w : World) :
    (execOp ρ { dst := d, op := .load 29 x, type := ty, pos, after := af, guard := g }).run Tryd.prog w = LoadS Tryd.prog 29 (ρ x) w := rfl
@[go_sem ↓] theorem exec_load_iStyle (ρ : Operand → Value) (d : Option Tmp) (x : Operand) (ty : TypeId) (pos : String) (af : Array Edge) (g : Option (Nat × Bool)) (w : World) :
    (execOp ρ { dst := d, op := .load 37 x, type := ty, pos, after := af, guard := g }).run Tryd.prog w = LoadS Tryd.prog 37 (ρ x) w := rfl
@[go_sem ↓] theorem exec_store_iStyle (ρ : Operand → Value) (d : Option Tmp) (x y : Operand) (ty : TypeId) (pos : String) (af : Array Edge) (g : Option (Nat × Bool)) (w : World) :
    (execOp ρ { dst := d, op := .store 37 x y, type := ty, pos, after := af, guard := g }).run Tryd.prog w = StoreS Tryd.prog 37 (ρ x) (ρ y) w := rfl
@[go_sem] theorem LoadS_lStyle {w : World} {b o : Nat} (h : hasRow w b o 60 = true) : LoadS Tryd.prog 29 (.pointer (some ⟨b, o, none⟩)) w = .ok (.value (.agg (rowOf w b o 60))) w := LoadS_row Tryd.underlying29 rfl (by kernel_rfl) h
@[go_sem] theorem LoadS_iStyle {w : World} {b o : Nat} (h : hasRow w b o 60 = true) : LoadS Tryd.prog 37 (.pointer (some ⟨b, o, none⟩)) w = .ok (.value (.agg (rowOf w b o 60))) w := LoadS_row Tryd.underlying37 rfl (by kernel_rfl) h
@[go_sem] theorem StoreS_iStyle {w : World} {b o : Nat} {s : Style} (h : hasRow w b o 60 = true) (hz : openRow w b = true) : StoreS Tryd.prog 37 (.pointer (some ⟨b, o, none⟩)) (.agg s.cells.toArray) w = .ok .skip (w.setCells b o s.cells) := StoreS_row (by kernel_rfl) h hz rfl (Style.ones s)

end Go.Proofs.YthffgbhphjkdeaaDoor
namespace Go.Proofs.YthffgbhphjkdeaaDoor
open Go.RowKit

set_option maxRecDepth 100000 in
set_option maxHeartbeats 8000000 in
theorem toStyle_any (x : Style) (w : World) : Calls Tryd.prog 10 #[.agg #[.int .i64 x.dir, .int .i64 x.wrap, .int .i64 x.justify, .int .i64 x.items, .int .i64 x.self, .int .i64 x.content, .bool x.apart, .bool x.hidden, .int .i64 x.order, .int .i64 x.grow, .int .i64 x.shrink, .int .i64 x.basis.kind, .int .i64 x.basis.n, .int .i64 x.width.kind, .int .i64 x.width.n, .int .i64 x.height.kind, .int .i64 x.height.n, .int .i64 x.minWidth.kind, .int .i64 x.minWidth.n, .int .i64 x.minHeight.kind, .int .i64 x.minHeight.n, .int .i64 x.maxWidth.kind, .int .i64 x.maxWidth.n, .int .i64 x.maxHeight.kind, .int .i64 x.maxHeight.n, .int .i64 x.ratio, .int .i64 x.margin.left.kind, .int .i64 x.margin.left.n, .int .i64 x.margin.top.kind, .int .i64 x.margin.top.n, .int .i64 x.margin.right.kind, .int .i64 x.margin.right.n, .int .i64 x.margin.bottom.kind, .int .i64 x.margin.bottom.n, .int .i64 x.margin.start.kind, .int .i64 x.margin.start.n, .int .i64 x.margin.stop.kind, .int .i64 x.margin.stop.n, .int .i64 x.inset.left.kind, .int .i64 x.inset.left.n, .int .i64 x.inset.top.kind, .int .i64 x.inset.top.n, .int .i64 x.inset.right.kind, .int .i64 x.inset.right.n, .int .i64 x.inset.bottom.kind, .int .i64 x.inset.bottom.n, .int .i64 x.inset.start.kind, .int .i64 x.inset.start.n, .int .i64 x.inset.stop.kind, .int .i64 x.inset.stop.n, .int .i64 x.pad.left, .int .i64 x.pad.top, .int .i64 x.pad.right, .int .i64 x.pad.bottom, .int .i64 x.border.left, .int .i64 x.border.top, .int .i64 x.border.right, .int .i64 x.border.bottom, .int .i64 x.rowGap, .int .i64 x.colGap]] w fun e w' => e = .returned (.agg #[.int .i64 x.dir, .int .i64 x.wrap, .int .i64 x.justify, .int .i64 x.items, .int .i64 x.self, .int .i64 x.content, .bool x.apart, .bool x.hidden, .int .i64 x.order, .int .i64 x.grow, .int .i64 x.shrink, .int .i64 x.basis.kind, .int .i64 x.basis.n, .int .i64 x.width.kind, .int .i64 x.width.n, .int .i64 x.height.kind, .int .i64 x.height.n, .int .i64 x.minWidth.kind, .int .i64 x.minWidth.n, .int .i64 x.minHeight.kind, .int .i64 x.minHeight.n, .int .i64 x.maxWidth.kind, .int .i64 x.maxWidth.n, .int .i64 x.maxHeight.kind, .int .i64 x.maxHeight.n, .int .i64 x.ratio, .int .i64 x.margin.left.kind, .int .i64 x.margin.left.n, .int .i64 x.margin.top.kind, .int .i64 x.margin.top.n, .int .i64 x.margin.right.kind, .int .i64 x.margin.right.n, .int .i64 x.margin.bottom.kind, .int .i64 x.margin.bottom.n, .int .i64 x.margin.start.kind, .int .i64 x.margin.start.n, .int .i64 x.margin.stop.kind, .int .i64 x.margin.stop.n, .int .i64 x.inset.left.kind, .int .i64 x.inset.left.n, .int .i64 x.inset.top.kind, .int .i64 x.inset.top.n, .int .i64 x.inset.right.kind, .int .i64 x.inset.right.n, .int .i64 x.inset.bottom.kind, .int .i64 x.inset.bottom.n, .int .i64 x.inset.start.kind, .int .i64 x.inset.start.n, .int .i64 x.inset.stop.kind, .int .i64 x.inset.stop.n, .int .i64 x.pad.left, .int .i64 x.pad.top, .int .i64 x.pad.right, .int .i64 x.pad.bottom, .int .i64 x.border.left, .int .i64 x.border.top, .int .i64 x.border.right, .int .i64 x.border.bottom, .int .i64 x.rowGap, .int .i64 x.colGap]) ∧ Mod (fun _ => False) w w' := by
  go_enter Tryd.func10, Tryd.ntmps10
  go_wp2_with fail
  refine (toValue_any x.basis _).mono ?_
  rintro e w1 ⟨rfl, hm1⟩
  have hM1 : Mod (fun _ => False) w w1 := by (repeat (first | with_reducible exact Mod.refl _ _ | with_reducible refine Mod.drewN ?_ _ | with_reducible refine Mod.drew ?_ | with_reducible refine Mod.alloc ?_ _ | ((with_reducible refine Mod.setNew ?_ ?_ _ _ _); (rotate_left; omega)) | with_reducible refine Mod.setAt ?_ _ _ _ | with_reducible exact hm1 | with_reducible refine Mod.thenNone ?_ hm1 ))
  have hS1 := hm1.blk (al3a _ _ _ _) (fun f => f)
  have hR1 := hm1.blk (al3b _ _ _ _) (fun f => f)
  have hD1 := hm1.blk (al3c _ _ _ _) (fun f => f)
  have c1_13 := blk_cell hS1 (j := 13) rfl
  have c1_14 := blk_cell hS1 (j := 14) rfl
  have d1_11 := blk_cell hD1 (j := 11) rfl
  have d1_12 := blk_cell hD1 (j := 12) rfl
  have z1_11 := blk_free hD1 11
  have z1_12 := blk_free hD1 12
  have hr1_0 : w.heap.size < w1.heap.size := (Array.getElem?_eq_some_iff.1 hS1).1
  have hr1_1 : w.heap.size + 1 < w1.heap.size := (Array.getElem?_eq_some_iff.1 hR1).1
  have hr1_2 : w.heap.size + 1 + 1 < w1.heap.size := (Array.getElem?_eq_some_iff.1 hD1).1
  clear hm1
  go_wp2_with fail
  refine (toValue_any x.width _).mono ?_
  rintro e w2 ⟨rfl, hm2⟩
  have hM2 : Mod (fun _ => False) w w2 := by (repeat (first | with_reducible exact Mod.refl _ _ | with_reducible refine Mod.drewN ?_ _ | with_reducible refine Mod.drew ?_ | with_reducible refine Mod.alloc ?_ _ | ((with_reducible refine Mod.setNew ?_ ?_ _ _ _); (rotate_left; omega)) | with_reducible refine Mod.setAt ?_ _ _ _ | with_reducible exact hm2 | with_reducible refine Mod.thenNone ?_ hm2 | with_reducible exact hM1 | with_reducible refine Mod.thenNone ?_ hM1 ))
  have hS2 := hm2.blk (set_far (set_far hS1 (by omega)) (by omega)) (fun f => f)
  have hR2 := hm2.blk (set_far (set_far hR1 (by omega)) (by omega)) (fun f => f)
  have hD2 : w2.heap[w.heap.size + 1 + 1]? = some (.cells #[.int .i64 x.dir, .int .i64 x.wrap, .int .i64 x.justify, .int .i64 x.items, .int .i64 x.self, .int .i64 x.content, .bool x.apart, .bool x.hidden, .int .i64 x.order, .int .i64 x.grow, .int .i64 x.shrink, .int .i64 x.basis.kind, .int .i64 x.basis.n, .int .i64 0, .int .i64 0, .int .i64 0, .int .i64 0, .int .i64 0, .int .i64 0, .int .i64 0, .int .i64 0, .int .i64 0, .int .i64 0, .int .i64 0, .int .i64 0, .int .i64 0, .int .i64 0, .int .i64 0, .int .i64 0, .int .i64 0, .int .i64 0, .int .i64 0, .int .i64 0, .int .i64 0, .int .i64 0, .int .i64 0, .int .i64 0, .int .i64 0, .int .i64 0, .int .i64 0, .int .i64 0, .int .i64 0, .int .i64 0, .int .i64 0, .int .i64 0, .int .i64 0, .int .i64 0, .int .i64 0, .int .i64 0, .int .i64 0, .int .i64 0, .int .i64 0, .int .i64 0, .int .i64 0, .int .i64 0, .int .i64 0, .int .i64 0, .int .i64 0, .int .i64 0, .int .i64 0] 37 (0, 0)) := hm2.blk (set_in (set_in hD1)) (fun f => f)
  have c2_15 := blk_cell hS2 (j := 15) rfl
  have c2_16 := blk_cell hS2 (j := 16) rfl
  have d2_13 := blk_cell hD2 (j := 13) rfl
  have d2_14 := blk_cell hD2 (j := 14) rfl
  have z2_13 := blk_free hD2 13
  have z2_14 := blk_free hD2 14
  have hr2_0 : w.heap.size < w2.heap.size := (Array.getElem?_eq_some_iff.1 hS2).1
  have hr2_1 : w.heap.size + 1 < w2.heap.size := (Array.getElem?_eq_some_iff.1 hR2).1
  have hr2_2 : w.heap.size + 1 + 1 < w2.heap.size := (Array.getElem?_eq_some_iff.1 hD2).1
  clear hm2 hS1 hR1 hD1 hM1 hr1_0 hr1_1 hr1_2 c1_13 c1_14 d1_11 z1_11 d1_12 z1_12
  go_wp2_with fail
  refine (toValue_any x.height _).mono ?_
  rintro e w3 ⟨rfl, hm3⟩
  have hM3 : Mod (fun _ => False) w w3 := by (repeat (first | with_reducible exact Mod.refl _ _ | with_reducible refine Mod.drewN ?_ _ | with_reducible refine Mod.drew ?_ | with_reducible refine Mod.alloc ?_ _ | ((with_reducible refine Mod.setNew ?_ ?_ _ _ _); (rotate_left; omega)) | with_reducible refine Mod.setAt ?_ _ _ _ | with_reducible exact hm3 | with_reducible refine Mod.thenNone ?_ hm3 | with_reducible exact hM2 | with_reducible refine Mod.thenNone ?_ hM2 ))
  have hS3 := hm3.blk (set_far (set_far hS2 (by omega)) (by omega)) (fun f => f)
  have hR3 := hm3.blk (set_far (set_far hR2 (by omega)) (by omega)) (fun f => f)
  have hD3 : w3.heap[w.heap.size + 1 + 1]? = some (.cells #[.int .i64 x.dir, .int .i64 x.wrap, .int .i64 x.justify, .int .i64 x.items, .int .i64 x.self, .int .i64 x.content, .bool x.apart, .bool x.hidden, .int .i64 x.order, .int .i64 x.grow, .int .i64 x.shrink, .int .i64 x.basis.kind, .int .i64 x.basis.n, .int .i64 x.width.kind, .int .i64 x.width.n, .int .i64 0, .int .i64 0, .int .i64 0, .int .i64 0, .int .i64 0, .int .i64 0, .int .i64 0, .int .i64 0, .int .i64 0, .int .i64 0, .int .i64 0, .int .i64 0, .int .i64 0, .int .i64 0, .int .i64 0, .int .i64 0, .int .i64 0, .int .i64 0, .int .i64 0, .int .i64 0, .int .i64 0, .int .i64 0, .int .i64 0, .int .i64 0, .int .i64 0, .int .i64 0, .int .i64 0, .int .i64 0, .int .i64 0, .int .i64 0, .int .i64 0, .int .i64 0, .int .i64 0, .int .i64 0, .int .i64 0, .int .i64 0, .int .i64 0, .int .i64 0, .int .i64 0, .int .i64 0, .int .i64 0, .int .i64 0, .int .i64 0, .int .i64 0, .int .i64 0] 37 (0, 0)) := hm3.blk (set_in (set_in hD2)) (fun f => f)
  have c3_17 := blk_cell hS3 (j := 17) rfl
  have c3_18 := blk_cell hS3 (j := 18) rfl
  have d3_15 := blk_cell hD3 (j := 15) rfl
  have d3_16 := blk_cell hD3 (j := 16) rfl
  have z3_15 := blk_free hD3 15
  have z3_16 := blk_free hD3 16
  have hr3_0 : w.heap.size < w3.heap.size := (Array.getElem?_eq_some_iff.1 hS3).1
  have hr3_1 : w.heap.size + 1 < w3.heap.size := (Array.getElem?_eq_some_iff.1 hR3).1
  have hr3_2 : w.heap.size + 1 + 1 < w3.heap.size := (Array.getElem?_eq_some_iff.1 hD3).1
  clear hm3 hS2 hR2 hD2 hM2 hr2_0 hr2_1 hr2_2 c2_15 c2_16 d2_13 z2_13 d2_14 z2_14
  go_wp2_with fail
  refine (toValue_any x.minWidth _).mono ?_
  rintro e w4 ⟨rfl, hm4⟩
  have hM4 : Mod (fun _ => False) w w4 := by (repeat (first | with_reducible exact Mod.refl _ _ | with_reducible refine Mod.drewN ?_ _ | with_reducible refine Mod.drew ?_ | with_reducible refine Mod.alloc ?_ _ | ((with_reducible refine Mod.setNew ?_ ?_ _ _ _); (rotate_left; omega)) | with_reducible refine Mod.setAt ?_ _ _ _ | with_reducible exact hm4 | with_reducible refine Mod.thenNone ?_ hm4 | with_reducible exact hM3 | with_reducible refine Mod.thenNone ?_ hM3 ))
  have hS4 := hm4.blk (set_far (set_far hS3 (by omega)) (by omega)) (fun f => f)
  have hR4 := hm4.blk (set_far (set_far hR3 (by omega)) (by omega)) (fun f => f)
  have hD4 : w4.heap[w.heap.size + 1 + 1]? = some (.cells #[.int .i64 x.dir, .int .i64 x.wrap, .int .i64 x.justify, .int .i64 x.items, .int .i64 x.self, .int .i64 x.content, .bool x.apart, .bool x.hidden, .int .i64 x.order, .int .i64 x.grow, .int .i64 x.shrink, .int .i64 x.basis.kind, .int .i64 x.basis.n, .int .i64 x.width.kind, .int .i64 x.width.n, .int .i64 x.height.kind, .int .i64 x.height.n, .int .i64 0, .int .i64 0, .int .i64 0, .int .i64 0, .int .i64 0, .int .i64 0, .int .i64 0, .int .i64 0, .int .i64 0, .int .i64 0, .int .i64 0, .int .i64 0, .int .i64 0, .int .i64 0, .int .i64 0, .int .i64 0, .int .i64 0, .int .i64 0, .int .i64 0, .int .i64 0, .int .i64 0, .int .i64 0, .int .i64 0, .int .i64 0, .int .i64 0, .int .i64 0, .int .i64 0, .int .i64 0, .int .i64 0, .int .i64 0, .int .i64 0, .int .i64 0, .int .i64 0, .int .i64 0, .int .i64 0, .int .i64 0, .int .i64 0, .int .i64 0, .int .i64 0, .int .i64 0, .int .i64 0, .int .i64 0, .int .i64 0] 37 (0, 0)) := hm4.blk (set_in (set_in hD3)) (fun f => f)
  have c4_19 := blk_cell hS4 (j := 19) rfl
  have c4_20 := blk_cell hS4 (j := 20) rfl
  have d4_17 := blk_cell hD4 (j := 17) rfl
  have d4_18 := blk_cell hD4 (j := 18) rfl
  have z4_17 := blk_free hD4 17
  have z4_18 := blk_free hD4 18
  have hr4_0 : w.heap.size < w4.heap.size := (Array.getElem?_eq_some_iff.1 hS4).1
  have hr4_1 : w.heap.size + 1 < w4.heap.size := (Array.getElem?_eq_some_iff.1 hR4).1
  have hr4_2 : w.heap.size + 1 + 1 < w4.heap.size := (Array.getElem?_eq_some_iff.1 hD4).1
  clear hm4 hS3 hR3 hD3 hM3 hr3_0 hr3_1 hr3_2 c3_17 c3_18 d3_15 z3_15 d3_16 z3_16
  go_wp2_with fail
  refine (toValue_any x.minHeight _).mono ?_
  rintro e w5 ⟨rfl, hm5⟩
  have hM5 : Mod (fun _ => False) w w5 := by (repeat (first | with_reducible exact Mod.refl _ _ | with_reducible refine Mod.drewN ?_ _ | with_reducible refine Mod.drew ?_ | with_reducible refine Mod.alloc ?_ _ | ((with_reducible refine Mod.setNew ?_ ?_ _ _ _); (rotate_left; omega)) | with_reducible refine Mod.setAt ?_ _ _ _ | with_reducible exact hm5 | with_reducible refine Mod.thenNone ?_ hm5 | with_reducible exact hM4 | with_reducible refine Mod.thenNone ?_ hM4 ))
  have hS5 := hm5.blk (set_far (set_far hS4 (by omega)) (by omega)) (fun f => f)
  have hR5 := hm5.blk (set_far (set_far hR4 (by omega)) (by omega)) (fun f => f)
  have hD5 : w5.heap[w.heap.size + 1 + 1]? = some (.cells #[.int .i64 x.dir, .int .i64 x.wrap, .int .i64 x.justify, .int .i64 x.items, .int .i64 x.self, .int .i64 x.content, .bool x.apart, .bool x.hidden, .int .i64 x.order, .int .i64 x.grow, .int .i64 x.shrink, .int .i64 x.basis.kind, .int .i64 x.basis.n, .int .i64 x.width.kind, .int .i64 x.width.n, .int .i64 x.height.kind, .int .i64 x.height.n, .int .i64 x.minWidth.kind, .int .i64 x.minWidth.n, .int .i64 0, .int .i64 0, .int .i64 0, .int .i64 0, .int .i64 0, .int .i64 0, .int .i64 0, .int .i64 0, .int .i64 0, .int .i64 0, .int .i64 0, .int .i64 0, .int .i64 0, .int .i64 0, .int .i64 0, .int .i64 0, .int .i64 0, .int .i64 0, .int .i64 0, .int .i64 0, .int .i64 0, .int .i64 0, .int .i64 0, .int .i64 0, .int .i64 0, .int .i64 0, .int .i64 0, .int .i64 0, .int .i64 0, .int .i64 0, .int .i64 0, .int .i64 0, .int .i64 0, .int .i64 0, .int .i64 0, .int .i64 0, .int .i64 0, .int .i64 0, .int .i64 0, .int .i64 0, .int .i64 0] 37 (0, 0)) := hm5.blk (set_in (set_in hD4)) (fun f => f)
  have c5_21 := blk_cell hS5 (j := 21) rfl
  have c5_22 := blk_cell hS5 (j := 22) rfl
  have d5_19 := blk_cell hD5 (j := 19) rfl
  have d5_20 := blk_cell hD5 (j := 20) rfl
  have z5_19 := blk_free hD5 19
  have z5_20 := blk_free hD5 20
  have hr5_0 : w.heap.size < w5.heap.size := (Array.getElem?_eq_some_iff.1 hS5).1
  have hr5_1 : w.heap.size + 1 < w5.heap.size := (Array.getElem?_eq_some_iff.1 hR5).1
  have hr5_2 : w.heap.size + 1 + 1 < w5.heap.size := (Array.getElem?_eq_some_iff.1 hD5).1
  clear hm5 hS4 hR4 hD4 hM4 hr4_0 hr4_1 hr4_2 c4_19 c4_20 d4_17 z4_17 d4_18 z4_18
  go_wp2_with fail
  refine (toValue_any x.maxWidth _).mono ?_
  rintro e w6 ⟨rfl, hm6⟩
  have hM6 : Mod (fun _ => False) w w6 := by (repeat (first | with_reducible exact Mod.refl _ _ | with_reducible refine Mod.drewN ?_ _ | with_reducible refine Mod.drew ?_ | with_reducible refine Mod.alloc ?_ _ | ((with_reducible refine Mod.setNew ?_ ?_ _ _ _); (rotate_left; omega)) | with_reducible refine Mod.setAt ?_ _ _ _ | with_reducible exact hm6 | with_reducible refine Mod.thenNone ?_ hm6 | with_reducible exact hM5 | with_reducible refine Mod.thenNone ?_ hM5 ))
  have hS6 := hm6.blk (set_far (set_far hS5 (by omega)) (by omega)) (fun f => f)
  have hR6 := hm6.blk (set_far (set_far hR5 (by omega)) (by omega)) (fun f => f)
  have hD6 : w6.heap[w.heap.size + 1 + 1]? = some (.cells #[.int .i64 x.dir, .int .i64 x.wrap, .int .i64 x.justify, .int .i64 x.items, .int .i64 x.self, .int .i64 x.content, .bool x.apart, .bool x.hidden, .int .i64 x.order, .int .i64 x.grow, .int .i64 x.shrink, .int .i64 x.basis.kind, .int .i64 x.basis.n, .int .i64 x.width.kind, .int .i64 x.width.n, .int .i64 x.height.kind, .int .i64 x.height.n, .int .i64 x.minWidth.kind, .int .i64 x.minWidth.n, .int .i64 x.minHeight.kind, .int .i64 x.minHeight.n, .int .i64 0, .int .i64 0, .int .i64 0, .int .i64 0, .int .i64 0, .int .i64 0, .int .i64 0, .int .i64 0, .int .i64 0, .int .i64 0, .int .i64 0, .int .i64 0, .int .i64 0, .int .i64 0, .int .i64 0, .int .i64 0, .int .i64 0, .int .i64 0, .int .i64 0, .int .i64 0, .int .i64 0, .int .i64 0, .int .i64 0, .int .i64 0, .int .i64 0, .int .i64 0, .int .i64 0, .int .i64 0, .int .i64 0, .int .i64 0, .int .i64 0, .int .i64 0, .int .i64 0, .int .i64 0, .int .i64 0, .int .i64 0, .int .i64 0, .int .i64 0, .int .i64 0] 37 (0, 0)) := hm6.blk (set_in (set_in hD5)) (fun f => f)
  have c6_23 := blk_cell hS6 (j := 23) rfl
  have c6_24 := blk_cell hS6 (j := 24) rfl
  have d6_21 := blk_cell hD6 (j := 21) rfl
  have d6_22 := blk_cell hD6 (j := 22) rfl
  have z6_21 := blk_free hD6 21
  have z6_22 := blk_free hD6 22
  have hr6_0 : w.heap.size < w6.heap.size := (Array.getElem?_eq_some_iff.1 hS6).1
  have hr6_1 : w.heap.size + 1 < w6.heap.size := (Array.getElem?_eq_some_iff.1 hR6).1
  have hr6_2 : w.heap.size + 1 + 1 < w6.heap.size := (Array.getElem?_eq_some_iff.1 hD6).1
  clear hm6 hS5 hR5 hD5 hM5 hr5_0 hr5_1 hr5_2 c5_21 c5_22 d5_19 z5_19 d5_20 z5_20
  go_wp2_with fail
  refine (toValue_any x.maxHeight _).mono ?_
  rintro e w7 ⟨rfl, hm7⟩
  have hM7 : Mod (fun _ => False) w w7 := by (repeat (first | with_reducible exact Mod.refl _ _ | with_reducible refine Mod.drewN ?_ _ | with_reducible refine Mod.drew ?_ | with_reducible refine Mod.alloc ?_ _ | ((with_reducible refine Mod.setNew ?_ ?_ _ _ _); (rotate_left; omega)) | with_reducible refine Mod.setAt ?_ _ _ _ | with_reducible exact hm7 | with_reducible refine Mod.thenNone ?_ hm7 | with_reducible exact hM6 | with_reducible refine Mod.thenNone ?_ hM6 ))
  have hS7 := hm7.blk (set_far (set_far hS6 (by omega)) (by omega)) (fun f => f)
  have hR7 := hm7.blk (set_far (set_far hR6 (by omega)) (by omega)) (fun f => f)
  have hD7 : w7.heap[w.heap.size + 1 + 1]? = some (.cells #[.int .i64 x.dir, .int .i64 x.wrap, .int .i64 x.justify, .int .i64 x.items, .int .i64 x.self, .int .i64 x.content, .bool x.apart, .bool x.hidden, .int .i64 x.order, .int .i64 x.grow, .int .i64 x.shrink, .int .i64 x.basis.kind, .int .i64 x.basis.n, .int .i64 x.width.kind, .int .i64 x.width.n, .int .i64 x.height.kind, .int .i64 x.height.n, .int .i64 x.minWidth.kind, .int .i64 x.minWidth.n, .int .i64 x.minHeight.kind, .int .i64 x.minHeight.n, .int .i64 x.maxWidth.kind, .int .i64 x.maxWidth.n, .int .i64 0, .int .i64 0, .int .i64 0, .int .i64 0, .int .i64 0, .int .i64 0, .int .i64 0, .int .i64 0, .int .i64 0, .int .i64 0, .int .i64 0, .int .i64 0, .int .i64 0, .int .i64 0, .int .i64 0, .int .i64 0, .int .i64 0, .int .i64 0, .int .i64 0, .int .i64 0, .int .i64 0, .int .i64 0, .int .i64 0, .int .i64 0, .int .i64 0, .int .i64 0, .int .i64 0, .int .i64 0, .int .i64 0, .int .i64 0, .int .i64 0, .int .i64 0, .int .i64 0, .int .i64 0, .int .i64 0, .int .i64 0, .int .i64 0] 37 (0, 0)) := hm7.blk (set_in (set_in hD6)) (fun f => f)
  have c7_25 := blk_cell hS7 (j := 25) rfl
  have c7_26 := blk_cell hS7 (j := 26) rfl
  have c7_27 := blk_cell hS7 (j := 27) rfl
  have c7_28 := blk_cell hS7 (j := 28) rfl
  have c7_29 := blk_cell hS7 (j := 29) rfl
  have c7_30 := blk_cell hS7 (j := 30) rfl
  have c7_31 := blk_cell hS7 (j := 31) rfl
  have c7_32 := blk_cell hS7 (j := 32) rfl
  have c7_33 := blk_cell hS7 (j := 33) rfl
  have c7_34 := blk_cell hS7 (j := 34) rfl
  have c7_35 := blk_cell hS7 (j := 35) rfl
  have c7_36 := blk_cell hS7 (j := 36) rfl
  have c7_37 := blk_cell hS7 (j := 37) rfl
  have d7_23 := blk_cell hD7 (j := 23) rfl
  have d7_24 := blk_cell hD7 (j := 24) rfl
  have d7_25 := blk_cell hD7 (j := 25) rfl
  have z7_23 := blk_free hD7 23
  have z7_24 := blk_free hD7 24
  have z7_25 := blk_free hD7 25
  have hr7_0 : w.heap.size < w7.heap.size := (Array.getElem?_eq_some_iff.1 hS7).1
  have hr7_1 : w.heap.size + 1 < w7.heap.size := (Array.getElem?_eq_some_iff.1 hR7).1
  have hr7_2 : w.heap.size + 1 + 1 < w7.heap.size := (Array.getElem?_eq_some_iff.1 hD7).1
  clear hm7 hS6 hR6 hD6 hM6 hr6_0 hr6_1 hr6_2 c6_23 c6_24 d6_21 z6_21 d6_22 z6_22
  go_wp2_with fail
  refine (toSides_any x.margin _).mono ?_
  rintro e w8 ⟨rfl, hm8⟩
  have hM8 : Mod (fun _ => False) w w8 := by (repeat (first | with_reducible exact Mod.refl _ _ | with_reducible refine Mod.drewN ?_ _ | with_reducible refine Mod.drew ?_ | with_reducible refine Mod.alloc ?_ _ | ((with_reducible refine Mod.setNew ?_ ?_ _ _ _); (rotate_left; omega)) | with_reducible refine Mod.setAt ?_ _ _ _ | with_reducible exact hm8 | with_reducible refine Mod.thenNone ?_ hm8 | with_reducible exact hM7 | with_reducible refine Mod.thenNone ?_ hM7 ))
  have hS8 := hm8.blk (set_far (set_far (set_far hS7 (by omega)) (by omega)) (by omega)) (fun f => f)
  have hR8 := hm8.blk (set_far (set_far (set_far hR7 (by omega)) (by omega)) (by omega)) (fun f => f)
  have hD8 : w8.heap[w.heap.size + 1 + 1]? = some (.cells #[.int .i64 x.dir, .int .i64 x.wrap, .int .i64 x.justify, .int .i64 x.items, .int .i64 x.self, .int .i64 x.content, .bool x.apart, .bool x.hidden, .int .i64 x.order, .int .i64 x.grow, .int .i64 x.shrink, .int .i64 x.basis.kind, .int .i64 x.basis.n, .int .i64 x.width.kind, .int .i64 x.width.n, .int .i64 x.height.kind, .int .i64 x.height.n, .int .i64 x.minWidth.kind, .int .i64 x.minWidth.n, .int .i64 x.minHeight.kind, .int .i64 x.minHeight.n, .int .i64 x.maxWidth.kind, .int .i64 x.maxWidth.n, .int .i64 x.maxHeight.kind, .int .i64 x.maxHeight.n, .int .i64 x.ratio, .int .i64 0, .int .i64 0, .int .i64 0, .int .i64 0, .int .i64 0, .int .i64 0, .int .i64 0, .int .i64 0, .int .i64 0, .int .i64 0, .int .i64 0, .int .i64 0, .int .i64 0, .int .i64 0, .int .i64 0, .int .i64 0, .int .i64 0, .int .i64 0, .int .i64 0, .int .i64 0, .int .i64 0, .int .i64 0, .int .i64 0, .int .i64 0, .int .i64 0, .int .i64 0, .int .i64 0, .int .i64 0, .int .i64 0, .int .i64 0, .int .i64 0, .int .i64 0, .int .i64 0, .int .i64 0] 37 (0, 0)) := hm8.blk (set_in (set_in (set_in hD7))) (fun f => f)
  have c8_38 := blk_cell hS8 (j := 38) rfl
  have c8_39 := blk_cell hS8 (j := 39) rfl
  have c8_40 := blk_cell hS8 (j := 40) rfl
  have c8_41 := blk_cell hS8 (j := 41) rfl
  have c8_42 := blk_cell hS8 (j := 42) rfl
  have c8_43 := blk_cell hS8 (j := 43) rfl
  have c8_44 := blk_cell hS8 (j := 44) rfl
  have c8_45 := blk_cell hS8 (j := 45) rfl
  have c8_46 := blk_cell hS8 (j := 46) rfl
  have c8_47 := blk_cell hS8 (j := 47) rfl
  have c8_48 := blk_cell hS8 (j := 48) rfl
  have c8_49 := blk_cell hS8 (j := 49) rfl
  have d8_26 := blk_cell hD8 (j := 26) rfl
  have d8_27 := blk_cell hD8 (j := 27) rfl
  have d8_28 := blk_cell hD8 (j := 28) rfl
  have d8_29 := blk_cell hD8 (j := 29) rfl
  have d8_30 := blk_cell hD8 (j := 30) rfl
  have d8_31 := blk_cell hD8 (j := 31) rfl
  have d8_32 := blk_cell hD8 (j := 32) rfl
  have d8_33 := blk_cell hD8 (j := 33) rfl
  have d8_34 := blk_cell hD8 (j := 34) rfl
  have d8_35 := blk_cell hD8 (j := 35) rfl
  have d8_36 := blk_cell hD8 (j := 36) rfl
  have d8_37 := blk_cell hD8 (j := 37) rfl
  have z8_26 := blk_free hD8 26
  have z8_27 := blk_free hD8 27
  have z8_28 := blk_free hD8 28
  have z8_29 := blk_free hD8 29
  have z8_30 := blk_free hD8 30
  have z8_31 := blk_free hD8 31
  have z8_32 := blk_free hD8 32
  have z8_33 := blk_free hD8 33
  have z8_34 := blk_free hD8 34
  have z8_35 := blk_free hD8 35
  have z8_36 := blk_free hD8 36
  have z8_37 := blk_free hD8 37
  have hr8_0 : w.heap.size < w8.heap.size := (Array.getElem?_eq_some_iff.1 hS8).1
  have hr8_1 : w.heap.size + 1 < w8.heap.size := (Array.getElem?_eq_some_iff.1 hR8).1
  have hr8_2 : w.heap.size + 1 + 1 < w8.heap.size := (Array.getElem?_eq_some_iff.1 hD8).1
  clear hm8 hS7 hR7 hD7 hM7 hr7_0 hr7_1 hr7_2 c7_25 c7_26 c7_27 c7_28 c7_29 c7_30 c7_31 c7_32 c7_33 c7_34 c7_35 c7_36 c7_37 d7_23 z7_23 d7_24 z7_24 d7_25 z7_25
  go_wp2_with fail
  refine (toSides_any x.inset _).mono ?_
  rintro e w9 ⟨rfl, hm9⟩
  have hM9 : Mod (fun _ => False) w w9 := by (repeat (first | with_reducible exact Mod.refl _ _ | with_reducible refine Mod.drewN ?_ _ | with_reducible refine Mod.drew ?_ | with_reducible refine Mod.alloc ?_ _ | ((with_reducible refine Mod.setNew ?_ ?_ _ _ _); (rotate_left; omega)) | with_reducible refine Mod.setAt ?_ _ _ _ | with_reducible exact hm9 | with_reducible refine Mod.thenNone ?_ hm9 | with_reducible exact hM8 | with_reducible refine Mod.thenNone ?_ hM8 ))
  have hS9 := hm9.blk (set_far (set_far (set_far (set_far (set_far (set_far (set_far (set_far (set_far (set_far (set_far (set_far hS8 (by omega)) (by omega)) (by omega)) (by omega)) (by omega)) (by omega)) (by omega)) (by omega)) (by omega)) (by omega)) (by omega)) (by omega)) (fun f => f)
  have hR9 := hm9.blk (set_far (set_far (set_far (set_far (set_far (set_far (set_far (set_far (set_far (set_far (set_far (set_far hR8 (by omega)) (by omega)) (by omega)) (by omega)) (by omega)) (by omega)) (by omega)) (by omega)) (by omega)) (by omega)) (by omega)) (by omega)) (fun f => f)
  have hD9 : w9.heap[w.heap.size + 1 + 1]? = some (.cells #[.int .i64 x.dir, .int .i64 x.wrap, .int .i64 x.justify, .int .i64 x.items, .int .i64 x.self, .int .i64 x.content, .bool x.apart, .bool x.hidden, .int .i64 x.order, .int .i64 x.grow, .int .i64 x.shrink, .int .i64 x.basis.kind, .int .i64 x.basis.n, .int .i64 x.width.kind, .int .i64 x.width.n, .int .i64 x.height.kind, .int .i64 x.height.n, .int .i64 x.minWidth.kind, .int .i64 x.minWidth.n, .int .i64 x.minHeight.kind, .int .i64 x.minHeight.n, .int .i64 x.maxWidth.kind, .int .i64 x.maxWidth.n, .int .i64 x.maxHeight.kind, .int .i64 x.maxHeight.n, .int .i64 x.ratio, .int .i64 x.margin.left.kind, .int .i64 x.margin.left.n, .int .i64 x.margin.top.kind, .int .i64 x.margin.top.n, .int .i64 x.margin.right.kind, .int .i64 x.margin.right.n, .int .i64 x.margin.bottom.kind, .int .i64 x.margin.bottom.n, .int .i64 x.margin.start.kind, .int .i64 x.margin.start.n, .int .i64 x.margin.stop.kind, .int .i64 x.margin.stop.n, .int .i64 0, .int .i64 0, .int .i64 0, .int .i64 0, .int .i64 0, .int .i64 0, .int .i64 0, .int .i64 0, .int .i64 0, .int .i64 0, .int .i64 0, .int .i64 0, .int .i64 0, .int .i64 0, .int .i64 0, .int .i64 0, .int .i64 0, .int .i64 0, .int .i64 0, .int .i64 0, .int .i64 0, .int .i64 0] 37 (0, 0)) := hm9.blk (set_in (set_in (set_in (set_in (set_in (set_in (set_in (set_in (set_in (set_in (set_in (set_in hD8)))))))))))) (fun f => f)
  have c9_50 := blk_cell hS9 (j := 50) rfl
  have c9_51 := blk_cell hS9 (j := 51) rfl
  have c9_52 := blk_cell hS9 (j := 52) rfl
  have c9_53 := blk_cell hS9 (j := 53) rfl
  have d9_38 := blk_cell hD9 (j := 38) rfl
  have d9_39 := blk_cell hD9 (j := 39) rfl
  have d9_40 := blk_cell hD9 (j := 40) rfl
  have d9_41 := blk_cell hD9 (j := 41) rfl
  have d9_42 := blk_cell hD9 (j := 42) rfl
  have d9_43 := blk_cell hD9 (j := 43) rfl
  have d9_44 := blk_cell hD9 (j := 44) rfl
  have d9_45 := blk_cell hD9 (j := 45) rfl
  have d9_46 := blk_cell hD9 (j := 46) rfl
  have d9_47 := blk_cell hD9 (j := 47) rfl
  have d9_48 := blk_cell hD9 (j := 48) rfl
  have d9_49 := blk_cell hD9 (j := 49) rfl
  have z9_38 := blk_free hD9 38
  have z9_39 := blk_free hD9 39
  have z9_40 := blk_free hD9 40
  have z9_41 := blk_free hD9 41
  have z9_42 := blk_free hD9 42
  have z9_43 := blk_free hD9 43
  have z9_44 := blk_free hD9 44
  have z9_45 := blk_free hD9 45
  have z9_46 := blk_free hD9 46
  have z9_47 := blk_free hD9 47
  have z9_48 := blk_free hD9 48
  have z9_49 := blk_free hD9 49
  have hr9_0 : w.heap.size < w9.heap.size := (Array.getElem?_eq_some_iff.1 hS9).1
  have hr9_1 : w.heap.size + 1 < w9.heap.size := (Array.getElem?_eq_some_iff.1 hR9).1
  have hr9_2 : w.heap.size + 1 + 1 < w9.heap.size := (Array.getElem?_eq_some_iff.1 hD9).1
  clear hm9 hS8 hR8 hD8 hM8 hr8_0 hr8_1 hr8_2 c8_38 c8_39 c8_40 c8_41 c8_42 c8_43 c8_44 c8_45 c8_46 c8_47 c8_48 c8_49 d8_26 z8_26 d8_27 z8_27 d8_28 z8_28 d8_29 z8_29 d8_30 z8_30 d8_31 z8_31 d8_32 z8_32 d8_33 z8_33 d8_34 z8_34 d8_35 z8_35 d8_36 z8_36 d8_37 z8_37
  go_wp2_with fail
  refine (toEdges_any x.pad _).mono ?_
  rintro e w10 ⟨rfl, hm10⟩
  have hM10 : Mod (fun _ => False) w w10 := by (repeat (first | with_reducible exact Mod.refl _ _ | with_reducible refine Mod.drewN ?_ _ | with_reducible refine Mod.drew ?_ | with_reducible refine Mod.alloc ?_ _ | ((with_reducible refine Mod.setNew ?_ ?_ _ _ _); (rotate_left; omega)) | with_reducible refine Mod.setAt ?_ _ _ _ | with_reducible exact hm10 | with_reducible refine Mod.thenNone ?_ hm10 | with_reducible exact hM9 | with_reducible refine Mod.thenNone ?_ hM9 ))
  have hS10 := hm10.blk (set_far (set_far (set_far (set_far (set_far (set_far (set_far (set_far (set_far (set_far (set_far (set_far hS9 (by omega)) (by omega)) (by omega)) (by omega)) (by omega)) (by omega)) (by omega)) (by omega)) (by omega)) (by omega)) (by omega)) (by omega)) (fun f => f)
  have hR10 := hm10.blk (set_far (set_far (set_far (set_far (set_far (set_far (set_far (set_far (set_far (set_far (set_far (set_far hR9 (by omega)) (by omega)) (by omega)) (by omega)) (by omega)) (by omega)) (by omega)) (by omega)) (by omega)) (by omega)) (by omega)) (by omega)) (fun f => f)
  have hD10 : w10.heap[w.heap.size + 1 + 1]? = some (.cells #[.int .i64 x.dir, .int .i64 x.wrap, .int .i64 x.justify, .int .i64 x.items, .int .i64 x.self, .int .i64 x.content, .bool x.apart, .bool x.hidden, .int .i64 x.order, .int .i64 x.grow, .int .i64 x.shrink, .int .i64 x.basis.kind, .int .i64 x.basis.n, .int .i64 x.width.kind, .int .i64 x.width.n, .int .i64 x.height.kind, .int .i64 x.height.n, .int .i64 x.minWidth.kind, .int .i64 x.minWidth.n, .int .i64 x.minHeight.kind, .int .i64 x.minHeight.n, .int .i64 x.maxWidth.kind, .int .i64 x.maxWidth.n, .int .i64 x.maxHeight.kind, .int .i64 x.maxHeight.n, .int .i64 x.ratio, .int .i64 x.margin.left.kind, .int .i64 x.margin.left.n, .int .i64 x.margin.top.kind, .int .i64 x.margin.top.n, .int .i64 x.margin.right.kind, .int .i64 x.margin.right.n, .int .i64 x.margin.bottom.kind, .int .i64 x.margin.bottom.n, .int .i64 x.margin.start.kind, .int .i64 x.margin.start.n, .int .i64 x.margin.stop.kind, .int .i64 x.margin.stop.n, .int .i64 x.inset.left.kind, .int .i64 x.inset.left.n, .int .i64 x.inset.top.kind, .int .i64 x.inset.top.n, .int .i64 x.inset.right.kind, .int .i64 x.inset.right.n, .int .i64 x.inset.bottom.kind, .int .i64 x.inset.bottom.n, .int .i64 x.inset.start.kind, .int .i64 x.inset.start.n, .int .i64 x.inset.stop.kind, .int .i64 x.inset.stop.n, .int .i64 0, .int .i64 0, .int .i64 0, .int .i64 0, .int .i64 0, .int .i64 0, .int .i64 0, .int .i64 0, .int .i64 0, .int .i64 0] 37 (0, 0)) := hm10.blk (set_in (set_in (set_in (set_in (set_in (set_in (set_in (set_in (set_in (set_in (set_in (set_in hD9)))))))))))) (fun f => f)
  have c10_54 := blk_cell hS10 (j := 54) rfl
  have c10_55 := blk_cell hS10 (j := 55) rfl
  have c10_56 := blk_cell hS10 (j := 56) rfl
  have c10_57 := blk_cell hS10 (j := 57) rfl
  have d10_50 := blk_cell hD10 (j := 50) rfl
  have d10_51 := blk_cell hD10 (j := 51) rfl
  have d10_52 := blk_cell hD10 (j := 52) rfl
  have d10_53 := blk_cell hD10 (j := 53) rfl
  have z10_50 := blk_free hD10 50
  have z10_51 := blk_free hD10 51
  have z10_52 := blk_free hD10 52
  have z10_53 := blk_free hD10 53
  have hr10_0 : w.heap.size < w10.heap.size := (Array.getElem?_eq_some_iff.1 hS10).1
  have hr10_1 : w.heap.size + 1 < w10.heap.size := (Array.getElem?_eq_some_iff.1 hR10).1
  have hr10_2 : w.heap.size + 1 + 1 < w10.heap.size := (Array.getElem?_eq_some_iff.1 hD10).1
  clear hm10 hS9 hR9 hD9 hM9 hr9_0 hr9_1 hr9_2 c9_50 c9_51 c9_52 c9_53 d9_38 z9_38 d9_39 z9_39 d9_40 z9_40 d9_41 z9_41 d9_42 z9_42 d9_43 z9_43 d9_44 z9_44 d9_45 z9_45 d9_46 z9_46 d9_47 z9_47 d9_48 z9_48 d9_49 z9_49
  go_wp2_with fail
  refine (toEdges_any x.border _).mono ?_
  rintro e w11 ⟨rfl, hm11⟩
  have hM11 : Mod (fun _ => False) w w11 := by (repeat (first | with_reducible exact Mod.refl _ _ | with_reducible refine Mod.drewN ?_ _ | with_reducible refine Mod.drew ?_ | with_reducible refine Mod.alloc ?_ _ | ((with_reducible refine Mod.setNew ?_ ?_ _ _ _); (rotate_left; omega)) | with_reducible refine Mod.setAt ?_ _ _ _ | with_reducible exact hm11 | with_reducible refine Mod.thenNone ?_ hm11 | with_reducible exact hM10 | with_reducible refine Mod.thenNone ?_ hM10 ))
  have hS11 := hm11.blk (set_far (set_far (set_far (set_far hS10 (by omega)) (by omega)) (by omega)) (by omega)) (fun f => f)
  have hR11 := hm11.blk (set_far (set_far (set_far (set_far hR10 (by omega)) (by omega)) (by omega)) (by omega)) (fun f => f)
  have hD11 : w11.heap[w.heap.size + 1 + 1]? = some (.cells #[.int .i64 x.dir, .int .i64 x.wrap, .int .i64 x.justify, .int .i64 x.items, .int .i64 x.self, .int .i64 x.content, .bool x.apart, .bool x.hidden, .int .i64 x.order, .int .i64 x.grow, .int .i64 x.shrink, .int .i64 x.basis.kind, .int .i64 x.basis.n, .int .i64 x.width.kind, .int .i64 x.width.n, .int .i64 x.height.kind, .int .i64 x.height.n, .int .i64 x.minWidth.kind, .int .i64 x.minWidth.n, .int .i64 x.minHeight.kind, .int .i64 x.minHeight.n, .int .i64 x.maxWidth.kind, .int .i64 x.maxWidth.n, .int .i64 x.maxHeight.kind, .int .i64 x.maxHeight.n, .int .i64 x.ratio, .int .i64 x.margin.left.kind, .int .i64 x.margin.left.n, .int .i64 x.margin.top.kind, .int .i64 x.margin.top.n, .int .i64 x.margin.right.kind, .int .i64 x.margin.right.n, .int .i64 x.margin.bottom.kind, .int .i64 x.margin.bottom.n, .int .i64 x.margin.start.kind, .int .i64 x.margin.start.n, .int .i64 x.margin.stop.kind, .int .i64 x.margin.stop.n, .int .i64 x.inset.left.kind, .int .i64 x.inset.left.n, .int .i64 x.inset.top.kind, .int .i64 x.inset.top.n, .int .i64 x.inset.right.kind, .int .i64 x.inset.right.n, .int .i64 x.inset.bottom.kind, .int .i64 x.inset.bottom.n, .int .i64 x.inset.start.kind, .int .i64 x.inset.start.n, .int .i64 x.inset.stop.kind, .int .i64 x.inset.stop.n, .int .i64 x.pad.left, .int .i64 x.pad.top, .int .i64 x.pad.right, .int .i64 x.pad.bottom, .int .i64 0, .int .i64 0, .int .i64 0, .int .i64 0, .int .i64 0, .int .i64 0] 37 (0, 0)) := hm11.blk (set_in (set_in (set_in (set_in hD10)))) (fun f => f)
  have c11_58 := blk_cell hS11 (j := 58) rfl
  have c11_59 := blk_cell hS11 (j := 59) rfl
  have d11_54 := blk_cell hD11 (j := 54) rfl
  have d11_55 := blk_cell hD11 (j := 55) rfl
  have d11_56 := blk_cell hD11 (j := 56) rfl
  have d11_57 := blk_cell hD11 (j := 57) rfl
  have d11_58 := blk_cell hD11 (j := 58) rfl
  have d11_59 := blk_cell hD11 (j := 59) rfl
  have z11_54 := blk_free hD11 54
  have z11_55 := blk_free hD11 55
  have z11_56 := blk_free hD11 56
  have z11_57 := blk_free hD11 57
  have z11_58 := blk_free hD11 58
  have z11_59 := blk_free hD11 59
  have hY : w11.heap[w.heap.size + 1 + 1]? = some (.cells (Style.cells { x with border := ⟨0, 0, 0, 0⟩, rowGap := 0, colGap := 0 }).toArray 37 (0, 0)) := hD11
  obtain ⟨hq0, hq1, _⟩ := row_blk hY 0 60 (by rw [Style.len]; omega)
  obtain ⟨hq2, _, hq3⟩ := row_blk (l := Style.cells default) hR11 0 60 (by rw [Style.len]; omega)
  rw [List.drop_zero, List.take_of_length_le (by rw [Style.len]; omega)] at hq1
  clear hY
  have hr11_0 : w.heap.size < w11.heap.size := (Array.getElem?_eq_some_iff.1 hS11).1
  have hr11_1 : w.heap.size + 1 < w11.heap.size := (Array.getElem?_eq_some_iff.1 hR11).1
  have hr11_2 : w.heap.size + 1 + 1 < w11.heap.size := (Array.getElem?_eq_some_iff.1 hD11).1
  clear hm11 hS10 hR10 hD10 hM10 hr10_0 hr10_1 hr10_2 c10_54 c10_55 c10_56 c10_57 d10_50 z10_50 d10_51 z10_51 d10_52 z10_52 d10_53 z10_53
  clear hS11 hR11 hD11
  dsimp only
  repeat (first | go_values | go_skip | go_guarded | go_step | go_upon | go_back)
  refine bodyPost_ret (v := .agg (Style.cells x).toArray) ?_ ?_ ?_
  · refine results_row (r := Style.cells x) (b := w.heap.size + 1) Tryd.results10 ?_ Tryd.underlying37 rfl (by kernel_rfl) ?_
    · rfl
    · refine range_setCells (r := Style.cells x) ?_
      simp only [hasRow_setCell, Style.len, hq2]
  · rfl
  · refine ⟨rfl, ?_⟩
    refine Mod.setCellsNew ?_ (by omega) _ _
    iterate 6 refine Mod.setNew ?_ (by omega) _ _ _
    exact hM11

end Go.Proofs.YthffgbhphjkdeaaDoor
namespace Go.Proofs.YthffgbhphjkdeaaDoor
open Go.RowKit

set_option maxRecDepth 100000 in
set_option maxHeartbeats 8000000 in
theorem eqStyle_same (x : Style) (w : World) : Calls Tryd.prog 18 #[.agg #[.int .i64 x.dir, .int .i64 x.wrap, .int .i64 x.justify, .int .i64 x.items, .int .i64 x.self, .int .i64 x.content, .bool x.apart, .bool x.hidden, .int .i64 x.order, .int .i64 x.grow, .int .i64 x.shrink, .int .i64 x.basis.kind, .int .i64 x.basis.n, .int .i64 x.width.kind, .int .i64 x.width.n, .int .i64 x.height.kind, .int .i64 x.height.n, .int .i64 x.minWidth.kind, .int .i64 x.minWidth.n, .int .i64 x.minHeight.kind, .int .i64 x.minHeight.n, .int .i64 x.maxWidth.kind, .int .i64 x.maxWidth.n, .int .i64 x.maxHeight.kind, .int .i64 x.maxHeight.n, .int .i64 x.ratio, .int .i64 x.margin.left.kind, .int .i64 x.margin.left.n, .int .i64 x.margin.top.kind, .int .i64 x.margin.top.n, .int .i64 x.margin.right.kind, .int .i64 x.margin.right.n, .int .i64 x.margin.bottom.kind, .int .i64 x.margin.bottom.n, .int .i64 x.margin.start.kind, .int .i64 x.margin.start.n, .int .i64 x.margin.stop.kind, .int .i64 x.margin.stop.n, .int .i64 x.inset.left.kind, .int .i64 x.inset.left.n, .int .i64 x.inset.top.kind, .int .i64 x.inset.top.n, .int .i64 x.inset.right.kind, .int .i64 x.inset.right.n, .int .i64 x.inset.bottom.kind, .int .i64 x.inset.bottom.n, .int .i64 x.inset.start.kind, .int .i64 x.inset.start.n, .int .i64 x.inset.stop.kind, .int .i64 x.inset.stop.n, .int .i64 x.pad.left, .int .i64 x.pad.top, .int .i64 x.pad.right, .int .i64 x.pad.bottom, .int .i64 x.border.left, .int .i64 x.border.top, .int .i64 x.border.right, .int .i64 x.border.bottom, .int .i64 x.rowGap, .int .i64 x.colGap], .agg #[.int .i64 x.dir, .int .i64 x.wrap, .int .i64 x.justify, .int .i64 x.items, .int .i64 x.self, .int .i64 x.content, .bool x.apart, .bool x.hidden, .int .i64 x.order, .int .i64 x.grow, .int .i64 x.shrink, .int .i64 x.basis.kind, .int .i64 x.basis.n, .int .i64 x.width.kind, .int .i64 x.width.n, .int .i64 x.height.kind, .int .i64 x.height.n, .int .i64 x.minWidth.kind, .int .i64 x.minWidth.n, .int .i64 x.minHeight.kind, .int .i64 x.minHeight.n, .int .i64 x.maxWidth.kind, .int .i64 x.maxWidth.n, .int .i64 x.maxHeight.kind, .int .i64 x.maxHeight.n, .int .i64 x.ratio, .int .i64 x.margin.left.kind, .int .i64 x.margin.left.n, .int .i64 x.margin.top.kind, .int .i64 x.margin.top.n, .int .i64 x.margin.right.kind, .int .i64 x.margin.right.n, .int .i64 x.margin.bottom.kind, .int .i64 x.margin.bottom.n, .int .i64 x.margin.start.kind, .int .i64 x.margin.start.n, .int .i64 x.margin.stop.kind, .int .i64 x.margin.stop.n, .int .i64 x.inset.left.kind, .int .i64 x.inset.left.n, .int .i64 x.inset.top.kind, .int .i64 x.inset.top.n, .int .i64 x.inset.right.kind, .int .i64 x.inset.right.n, .int .i64 x.inset.bottom.kind, .int .i64 x.inset.bottom.n, .int .i64 x.inset.start.kind, .int .i64 x.inset.start.n, .int .i64 x.inset.stop.kind, .int .i64 x.inset.stop.n, .int .i64 x.pad.left, .int .i64 x.pad.top, .int .i64 x.pad.right, .int .i64 x.pad.bottom, .int .i64 x.border.left, .int .i64 x.border.top, .int .i64 x.border.right, .int .i64 x.border.bottom, .int .i64 x.rowGap, .int .i64 x.colGap]] w fun e w' => e = .returned (.bool true) ∧ Mod (fun _ => False) w w' := by
  go_enter Tryd.func18, Tryd.ntmps18
  go_wp2_with fail
  refine (eqValue_any x.basis x.basis _).mono ?_
  rintro e w1 ⟨rfl, hm1⟩
  rw [decide_eq_true rfl]
  have hM1 : Mod (fun _ => False) w w1 := by (repeat (first | with_reducible exact Mod.refl _ _ | with_reducible refine Mod.drewN ?_ _ | with_reducible refine Mod.drew ?_ | with_reducible refine Mod.alloc ?_ _ | ((with_reducible refine Mod.setNew ?_ ?_ _ _ _); (rotate_left; omega)) | with_reducible refine Mod.setAt ?_ _ _ _ | with_reducible exact hm1 | with_reducible refine Mod.thenNone ?_ hm1 ))
  have hA1 := hm1.blk (al2a _ _ _) (fun f => f)
  have hB1 := hm1.blk (al2b _ _ _) (fun f => f)
  have c1_13 := blk_cell hA1 (j := 13) rfl
  have d1_13 := blk_cell hB1 (j := 13) rfl
  have c1_14 := blk_cell hA1 (j := 14) rfl
  have d1_14 := blk_cell hB1 (j := 14) rfl
  have hr1_0 : w.heap.size < w1.heap.size := (Array.getElem?_eq_some_iff.1 hA1).1
  have hr1_1 : w.heap.size + 1 < w1.heap.size := (Array.getElem?_eq_some_iff.1 hB1).1
  clear hm1
  go_wp2_with fail
  refine (eqValue_any x.width x.width _).mono ?_
  rintro e w2 ⟨rfl, hm2⟩
  rw [decide_eq_true rfl]
  have hM2 : Mod (fun _ => False) w w2 := hM1.thenNone hm2
  have hA2 := hm2.blk hA1 (fun f => f)
  have hB2 := hm2.blk hB1 (fun f => f)
  have c2_15 := blk_cell hA2 (j := 15) rfl
  have d2_15 := blk_cell hB2 (j := 15) rfl
  have c2_16 := blk_cell hA2 (j := 16) rfl
  have d2_16 := blk_cell hB2 (j := 16) rfl
  have hr2_0 : w.heap.size < w2.heap.size := (Array.getElem?_eq_some_iff.1 hA2).1
  have hr2_1 : w.heap.size + 1 < w2.heap.size := (Array.getElem?_eq_some_iff.1 hB2).1
  clear hm2 hA1 hB1 hM1 hr1_0 hr1_1 c1_13 d1_13 c1_14 d1_14
  go_wp2_with fail
  refine (eqValue_any x.height x.height _).mono ?_
  rintro e w3 ⟨rfl, hm3⟩
  rw [decide_eq_true rfl]
  have hM3 : Mod (fun _ => False) w w3 := hM2.thenNone hm3
  have hA3 := hm3.blk hA2 (fun f => f)
  have hB3 := hm3.blk hB2 (fun f => f)
  have c3_17 := blk_cell hA3 (j := 17) rfl
  have d3_17 := blk_cell hB3 (j := 17) rfl
  have c3_18 := blk_cell hA3 (j := 18) rfl
  have d3_18 := blk_cell hB3 (j := 18) rfl
  have hr3_0 : w.heap.size < w3.heap.size := (Array.getElem?_eq_some_iff.1 hA3).1
  have hr3_1 : w.heap.size + 1 < w3.heap.size := (Array.getElem?_eq_some_iff.1 hB3).1
  clear hm3 hA2 hB2 hM2 hr2_0 hr2_1 c2_15 d2_15 c2_16 d2_16
  go_wp2_with fail
  refine (eqValue_any x.minWidth x.minWidth _).mono ?_
  rintro e w4 ⟨rfl, hm4⟩
  rw [decide_eq_true rfl]
  have hM4 : Mod (fun _ => False) w w4 := hM3.thenNone hm4
  have hA4 := hm4.blk hA3 (fun f => f)
  have hB4 := hm4.blk hB3 (fun f => f)
  have c4_19 := blk_cell hA4 (j := 19) rfl
  have d4_19 := blk_cell hB4 (j := 19) rfl
  have c4_20 := blk_cell hA4 (j := 20) rfl
  have d4_20 := blk_cell hB4 (j := 20) rfl
  have hr4_0 : w.heap.size < w4.heap.size := (Array.getElem?_eq_some_iff.1 hA4).1
  have hr4_1 : w.heap.size + 1 < w4.heap.size := (Array.getElem?_eq_some_iff.1 hB4).1
  clear hm4 hA3 hB3 hM3 hr3_0 hr3_1 c3_17 d3_17 c3_18 d3_18
  go_wp2_with fail
  refine (eqValue_any x.minHeight x.minHeight _).mono ?_
  rintro e w5 ⟨rfl, hm5⟩
  rw [decide_eq_true rfl]
  have hM5 : Mod (fun _ => False) w w5 := hM4.thenNone hm5
  have hA5 := hm5.blk hA4 (fun f => f)
  have hB5 := hm5.blk hB4 (fun f => f)
  have c5_21 := blk_cell hA5 (j := 21) rfl
  have d5_21 := blk_cell hB5 (j := 21) rfl
  have c5_22 := blk_cell hA5 (j := 22) rfl
  have d5_22 := blk_cell hB5 (j := 22) rfl
  have hr5_0 : w.heap.size < w5.heap.size := (Array.getElem?_eq_some_iff.1 hA5).1
  have hr5_1 : w.heap.size + 1 < w5.heap.size := (Array.getElem?_eq_some_iff.1 hB5).1
  clear hm5 hA4 hB4 hM4 hr4_0 hr4_1 c4_19 d4_19 c4_20 d4_20
  go_wp2_with fail
  refine (eqValue_any x.maxWidth x.maxWidth _).mono ?_
  rintro e w6 ⟨rfl, hm6⟩
  rw [decide_eq_true rfl]
  have hM6 : Mod (fun _ => False) w w6 := hM5.thenNone hm6
  have hA6 := hm6.blk hA5 (fun f => f)
  have hB6 := hm6.blk hB5 (fun f => f)
  have c6_23 := blk_cell hA6 (j := 23) rfl
  have d6_23 := blk_cell hB6 (j := 23) rfl
  have c6_24 := blk_cell hA6 (j := 24) rfl
  have d6_24 := blk_cell hB6 (j := 24) rfl
  have hr6_0 : w.heap.size < w6.heap.size := (Array.getElem?_eq_some_iff.1 hA6).1
  have hr6_1 : w.heap.size + 1 < w6.heap.size := (Array.getElem?_eq_some_iff.1 hB6).1
  clear hm6 hA5 hB5 hM5 hr5_0 hr5_1 c5_21 d5_21 c5_22 d5_22
  go_wp2_with fail
  refine (eqValue_any x.maxHeight x.maxHeight _).mono ?_
  rintro e w7 ⟨rfl, hm7⟩
  rw [decide_eq_true rfl]
  have hM7 : Mod (fun _ => False) w w7 := hM6.thenNone hm7
  have hA7 := hm7.blk hA6 (fun f => f)
  have hB7 := hm7.blk hB6 (fun f => f)
  have c7_25 := blk_cell hA7 (j := 25) rfl
  have d7_25 := blk_cell hB7 (j := 25) rfl
  have c7_26 := blk_cell hA7 (j := 26) rfl
  have d7_26 := blk_cell hB7 (j := 26) rfl
  have c7_27 := blk_cell hA7 (j := 27) rfl
  have d7_27 := blk_cell hB7 (j := 27) rfl
  have c7_28 := blk_cell hA7 (j := 28) rfl
  have d7_28 := blk_cell hB7 (j := 28) rfl
  have c7_29 := blk_cell hA7 (j := 29) rfl
  have d7_29 := blk_cell hB7 (j := 29) rfl
  have c7_30 := blk_cell hA7 (j := 30) rfl
  have d7_30 := blk_cell hB7 (j := 30) rfl
  have c7_31 := blk_cell hA7 (j := 31) rfl
  have d7_31 := blk_cell hB7 (j := 31) rfl
  have c7_32 := blk_cell hA7 (j := 32) rfl
  have d7_32 := blk_cell hB7 (j := 32) rfl
  have c7_33 := blk_cell hA7 (j := 33) rfl
  have d7_33 := blk_cell hB7 (j := 33) rfl
  have c7_34 := blk_cell hA7 (j := 34) rfl
  have d7_34 := blk_cell hB7 (j := 34) rfl
  have c7_35 := blk_cell hA7 (j := 35) rfl
  have d7_35 := blk_cell hB7 (j := 35) rfl
  have c7_36 := blk_cell hA7 (j := 36) rfl
  have d7_36 := blk_cell hB7 (j := 36) rfl
  have c7_37 := blk_cell hA7 (j := 37) rfl
  have d7_37 := blk_cell hB7 (j := 37) rfl
  have hr7_0 : w.heap.size < w7.heap.size := (Array.getElem?_eq_some_iff.1 hA7).1
  have hr7_1 : w.heap.size + 1 < w7.heap.size := (Array.getElem?_eq_some_iff.1 hB7).1
  clear hm7 hA6 hB6 hM6 hr6_0 hr6_1 c6_23 d6_23 c6_24 d6_24
  go_wp2_with fail
  refine (eqSides_same x.margin _).mono ?_
  rintro e w8 ⟨rfl, hm8⟩
  have hM8 : Mod (fun _ => False) w w8 := hM7.thenNone hm8
  have hA8 := hm8.blk hA7 (fun f => f)
  have hB8 := hm8.blk hB7 (fun f => f)
  have c8_38 := blk_cell hA8 (j := 38) rfl
  have d8_38 := blk_cell hB8 (j := 38) rfl
  have c8_39 := blk_cell hA8 (j := 39) rfl
  have d8_39 := blk_cell hB8 (j := 39) rfl
  have c8_40 := blk_cell hA8 (j := 40) rfl
  have d8_40 := blk_cell hB8 (j := 40) rfl
  have c8_41 := blk_cell hA8 (j := 41) rfl
  have d8_41 := blk_cell hB8 (j := 41) rfl
  have c8_42 := blk_cell hA8 (j := 42) rfl
  have d8_42 := blk_cell hB8 (j := 42) rfl
  have c8_43 := blk_cell hA8 (j := 43) rfl
  have d8_43 := blk_cell hB8 (j := 43) rfl
  have c8_44 := blk_cell hA8 (j := 44) rfl
  have d8_44 := blk_cell hB8 (j := 44) rfl
  have c8_45 := blk_cell hA8 (j := 45) rfl
  have d8_45 := blk_cell hB8 (j := 45) rfl
  have c8_46 := blk_cell hA8 (j := 46) rfl
  have d8_46 := blk_cell hB8 (j := 46) rfl
  have c8_47 := blk_cell hA8 (j := 47) rfl
  have d8_47 := blk_cell hB8 (j := 47) rfl
  have c8_48 := blk_cell hA8 (j := 48) rfl
  have d8_48 := blk_cell hB8 (j := 48) rfl
  have c8_49 := blk_cell hA8 (j := 49) rfl
  have d8_49 := blk_cell hB8 (j := 49) rfl
  have hr8_0 : w.heap.size < w8.heap.size := (Array.getElem?_eq_some_iff.1 hA8).1
  have hr8_1 : w.heap.size + 1 < w8.heap.size := (Array.getElem?_eq_some_iff.1 hB8).1
  clear hm8 hA7 hB7 hM7 hr7_0 hr7_1 c7_25 d7_25 c7_26 d7_26 c7_27 d7_27 c7_28 d7_28 c7_29 d7_29 c7_30 d7_30 c7_31 d7_31 c7_32 d7_32 c7_33 d7_33 c7_34 d7_34 c7_35 d7_35 c7_36 d7_36 c7_37 d7_37
  go_wp2_with fail
  refine (eqSides_same x.inset _).mono ?_
  rintro e w9 ⟨rfl, hm9⟩
  have hM9 : Mod (fun _ => False) w w9 := hM8.thenNone hm9
  have hA9 := hm9.blk hA8 (fun f => f)
  have hB9 := hm9.blk hB8 (fun f => f)
  have c9_50 := blk_cell hA9 (j := 50) rfl
  have d9_50 := blk_cell hB9 (j := 50) rfl
  have c9_51 := blk_cell hA9 (j := 51) rfl
  have d9_51 := blk_cell hB9 (j := 51) rfl
  have c9_52 := blk_cell hA9 (j := 52) rfl
  have d9_52 := blk_cell hB9 (j := 52) rfl
  have c9_53 := blk_cell hA9 (j := 53) rfl
  have d9_53 := blk_cell hB9 (j := 53) rfl
  have hr9_0 : w.heap.size < w9.heap.size := (Array.getElem?_eq_some_iff.1 hA9).1
  have hr9_1 : w.heap.size + 1 < w9.heap.size := (Array.getElem?_eq_some_iff.1 hB9).1
  clear hm9 hA8 hB8 hM8 hr8_0 hr8_1 c8_38 d8_38 c8_39 d8_39 c8_40 d8_40 c8_41 d8_41 c8_42 d8_42 c8_43 d8_43 c8_44 d8_44 c8_45 d8_45 c8_46 d8_46 c8_47 d8_47 c8_48 d8_48 c8_49 d8_49
  go_wp2_with fail
  refine (eqEdges_same x.pad _).mono ?_
  rintro e w10 ⟨rfl, hm10⟩
  have hM10 : Mod (fun _ => False) w w10 := hM9.thenNone hm10
  have hA10 := hm10.blk hA9 (fun f => f)
  have hB10 := hm10.blk hB9 (fun f => f)
  have c10_54 := blk_cell hA10 (j := 54) rfl
  have d10_54 := blk_cell hB10 (j := 54) rfl
  have c10_55 := blk_cell hA10 (j := 55) rfl
  have d10_55 := blk_cell hB10 (j := 55) rfl
  have c10_56 := blk_cell hA10 (j := 56) rfl
  have d10_56 := blk_cell hB10 (j := 56) rfl
  have c10_57 := blk_cell hA10 (j := 57) rfl
  have d10_57 := blk_cell hB10 (j := 57) rfl
  have hr10_0 : w.heap.size < w10.heap.size := (Array.getElem?_eq_some_iff.1 hA10).1
  have hr10_1 : w.heap.size + 1 < w10.heap.size := (Array.getElem?_eq_some_iff.1 hB10).1
  clear hm10 hA9 hB9 hM9 hr9_0 hr9_1 c9_50 d9_50 c9_51 d9_51 c9_52 d9_52 c9_53 d9_53
  go_wp2_with fail
  refine (eqEdges_same x.border _).mono ?_
  rintro e w11 ⟨rfl, hm11⟩
  have hM11 : Mod (fun _ => False) w w11 := hM10.thenNone hm11
  have hA11 := hm11.blk hA10 (fun f => f)
  have hB11 := hm11.blk hB10 (fun f => f)
  have c11_58 := blk_cell hA11 (j := 58) rfl
  have d11_58 := blk_cell hB11 (j := 58) rfl
  have c11_59 := blk_cell hA11 (j := 59) rfl
  have d11_59 := blk_cell hB11 (j := 59) rfl
  have hr11_0 : w.heap.size < w11.heap.size := (Array.getElem?_eq_some_iff.1 hA11).1
  have hr11_1 : w.heap.size + 1 < w11.heap.size := (Array.getElem?_eq_some_iff.1 hB11).1
  clear hm11 hA10 hB10 hM10 hr10_0 hr10_1 c10_54 d10_54 c10_55 d10_55 c10_56 d10_56 c10_57 d10_57
  clear hA11 hB11
  go_wp2
  go_ret
  exact ⟨rfl, hM11⟩

end Go.Proofs.YthffgbhphjkdeaaDoor
namespace Go.Proofs.YthffgbhphjkdeaaDoor
open Go.RowKit

theorem info_Rule : (Tryd.prog.info? 127).map (fun i => (i.zero, i.size, i.bytes)) = some (some (.agg #[.int .i64 0, .int .i64 0, .int .i64 0]), 3, 24) := by kernel_rfl

end Go.Proofs.YthffgbhphjkdeaaDoor
namespace Go.Proofs.YthffgbhphjkdeaaDoor
open Go.RowKit

theorem toRule_any (x : Rule) (w : World) : Calls Tryd.prog 164 #[.agg #[.int .i64 x.room, .int .i64 x.wide, .int .i64 x.high]] w fun e w' => e = .returned (.agg #[.int .i64 x.room, .int .i64 x.wide, .int .i64 x.high]) ∧ Mod (fun _ => False) w w' := by
  go_enter Tryd.func164, Tryd.ntmps164
  go_wp2
  refine bodyPost_ret (v := .agg #[.int .i64 x.room, .int .i64 x.wide, .int .i64 x.high]) (by simp [results, Tryd.results164, go_sem]) rfl ⟨rfl, by (repeat (first | with_reducible exact Mod.refl _ _ | with_reducible refine Mod.drewN ?_ _ | with_reducible refine Mod.drew ?_ | with_reducible refine Mod.alloc ?_ _ | ((with_reducible refine Mod.setNew ?_ ?_ _ _ _); (rotate_left; omega)) | with_reducible refine Mod.setAt ?_ _ _ _ ))⟩

set_option maxHeartbeats 1000000 in
theorem eqRule_any (x y : Rule) (w : World) : Calls Tryd.prog 138 #[.agg #[.int .i64 x.room, .int .i64 x.wide, .int .i64 x.high], .agg #[.int .i64 y.room, .int .i64 y.wide, .int .i64 y.high]] w fun e w' => e = .returned (.bool (decide (x = y))) ∧ Mod (fun _ => False) w w' := by
  obtain ⟨x0, x1, x2⟩ := x
  obtain ⟨y0, y1, y2⟩ := y
  go_enter Tryd.func138, Tryd.ntmps138
  go_wp2
  all_goals
    go_ret
    refine ⟨ret_bool ?_, by (repeat (first | with_reducible exact Mod.refl _ _ | with_reducible refine Mod.drewN ?_ _ | with_reducible refine Mod.drew ?_ | with_reducible refine Mod.alloc ?_ _ | ((with_reducible refine Mod.setNew ?_ ?_ _ _ _); (rotate_left; omega)) | with_reducible refine Mod.setAt ?_ _ _ _ ))⟩
    simp_all


end Go.Proofs.YthffgbhphjkdeaaDoor
namespace Go.Proofs.YthffgbhphjkdeaaDoor
open Go.RowKit

theorem szRuleS_any (n c : Nat) (a : Option Addr) (left : Int) (h0 : 0 ≤ left) (h1 : left ≤ 1048576) (hn : n ≤ 9223372036854775807) (w : World) : Calls Tryd.prog 139 #[.slice a n c, .int .i64 left] w fun e w' => e = .returned (.int .i64 (if left < n then -1 else left - n)) ∧ w = w' := by
  by_cases h : left < n
  · rw [if_pos h]
    have h2 : left - n < 0 := by omega
    have h3 : -9223372036854775807 ≤ left - n := by omega
    go_enter Tryd.func139, Tryd.ntmps139
    go_wp2
    go_ret
    exact ⟨rfl, rfl⟩
  · rw [if_neg h]
    have h2 : 0 ≤ left - n := by omega
    go_enter Tryd.func139, Tryd.ntmps139
    go_wp2
    go_ret
    exact ⟨rfl, rfl⟩

set_option maxRecDepth 100000 in
set_option maxHeartbeats 1000000 in
theorem toRuleS_any (l : List Rule) (a : Option Addr) (c : Nat) (R : Nat → Prop) (w : World) (hl : l.length ≤ 1048576) (h : SliceAt (Flat Rule.cells) 3 R w a l) :
    Calls Tryd.prog 142 #[.slice a l.length c] w (NewRows 127 w l.length (l.map Rule.cells).flatten) := by
  have H := hid h
  clear h
  obtain ⟨i0, hi, hz0, hz1, hz2⟩ := info_parts info_Rule
  have hmk : ∀ W : World, (Instr.makeSlice 58 (.int .i64 (l.length : Int)) (.int .i64 (l.length : Int))).run Tryd.prog W = .ok (.slice (some ⟨W.heap.size, 0, none⟩) l.length l.length) (W.alloc (.cells (madeCells (Value.cells (.agg #[.int .i64 0, .int .i64 0, .int .i64 0])) (l.length * 3)) 127)) := by
    intro W
    have := run_make (P := Tryd.prog) W 58 127 i0 _ Tryd.underlying58 hi hz0 .i64 .i64 l.length l.length (by omega) (by omega) (by rw [hz2]; omega) (by omega)
    simpa [hz1] using this
  clear hz0 hz1 hz2 hi
  go_enter Tryd.func142, Tryd.ntmps142
  go_wp2
  go_loopw [4] (fun i wr => ∃ k : Nat, k ≤ l.length ∧ i = .int .i64 k ∧ Filled w.heap.size 127 (l.length * 3) wr ((l.take k).map Rule.cells).flatten ∧ Mod (fun _ => False) w wr) (fun i _ => l.length - (intOf i).toNat)
  case atStart => exact ⟨0, by omega, rfl, Filled.made w _ _ _ (size_madeCells _ _), (Mod.refl _ w).alloc _⟩
  case round =>
    obtain ⟨k, hk, rfl, hF, hM⟩ := hrel
    clear hmk
    by_cases hlt : k < l.length
    · obtain ⟨b, o, x, r, rfl, hb, hbw, hx, hr, hrl, hc⟩ := (H.out.mod hM (fun _ _ f => f) (fun _ _ h => h)).get hlt
      obtain rfl : r = x.cells := hr
      have c0 : wr.cell? ⟨b, o + k * 3, none⟩ = _ := hc 0 _ rfl
      have c1 : wr.cell? ⟨b, o + k * 3 + 1, none⟩ = _ := hc 1 _ rfl
      have c2 : wr.cell? ⟨b, o + k * 3 + 2, none⟩ = _ := hc 2 _ rfl
      clear hc hrl
      go_wp2_with fail
      refine (toRule_any x _).mono ?_
      rintro e w1 ⟨rfl, hm1⟩
      have hF1 := hF.mod hm1 (fun f => f)
      obtain ⟨v0, d0⟩ := hF1.cell (off := k * 3) (by omega)
      obtain ⟨v1, d1⟩ := hF1.cell (off := k * 3 + 1) (by omega)
      obtain ⟨v2, d2⟩ := hF1.cell (off := k * 3 + 2) (by omega)
      have z0 := hF1.free (k * 3)
      have z1 := hF1.free (k * 3 + 1)
      have z2 := hF1.free (k * 3 + 2)
      go_wp2
      go_roundw
      case rel =>
        refine ⟨k + 1, by omega, by go_num, ?_, ?_⟩
        · have hl0 := flat_length (cells := Rule.cells) (sz := 3) (fun _ => rfl) (l.take k)
          rw [take_length_of_lt hk] at hl0
          rw [flat_succ hx]
          have e : ∀ s : List Value, s ++ x.cells = s ++ [.int .i64 x.room] ++ [.int .i64 x.wide] ++ [.int .i64 x.high] := by intro s; simp [Rule.cells]
          rw [e]
          generalize ((l.take k).map Rule.cells).flatten = s at hF1 hl0
          exact (((hF1.push (off := k * 3) (by simp [hl0]) (by omega) _).push (off := k * 3 + 1) (by simp [hl0]) (by omega) _).push (off := k * 3 + 2) (by simp [hl0]) (by omega) _)
        · have hM1 := hM.thenNone hm1
          (repeat (first | with_reducible exact Mod.refl _ _ | with_reducible refine Mod.drewN ?_ _ | with_reducible refine Mod.drew ?_ | with_reducible refine Mod.alloc ?_ _ | ((with_reducible refine Mod.setNew ?_ ?_ _ _ _); (rotate_left; omega)) | with_reducible refine Mod.setAt ?_ _ _ _ | with_reducible exact hM1 | with_reducible refine Mod.thenNone ?_ hM1 ))
      case measure => simp [intOf]; omega
    · have hk' : k = l.length := by omega
      subst hk'
      go_wp2
      go_ret
      refine ⟨w.heap.size, rfl, Nat.le_refl _, ?_, hM⟩
      rw [List.take_length] at hF
      exact hF.full (flat_length (cells := Rule.cells) (sz := 3) (fun _ => rfl) l)

set_option maxRecDepth 100000 in
set_option maxHeartbeats 1000000 in
theorem eqRuleS_any (l m : List Rule) (a a' : Option Addr) (c c' : Nat) (R S : Nat → Prop) (w : World) (hl : l.length ≤ 9223372036854775807) (_hm : m.length ≤ 9223372036854775807) (h : SliceAt (Flat Rule.cells) 3 R w a l) (h' : SliceAt (Flat Rule.cells) 3 S w a' m) :
    Calls Tryd.prog 84 #[.slice a l.length c, .slice a' m.length c'] w fun e w' => e = .returned (.bool (decide (l = m))) ∧ Mod (fun _ => False) w w' := by
  have H := hid h
  have H' := hid h'
  clear h h'
  by_cases hlen : l.length = m.length
  · have hn0 : ((l.length : Int) != (m.length : Int)) = false := by simp [hlen]
    have hn1 : l.length ≤ m.length := by omega
    have hn2 : m.length ≤ l.length := by omega
    clear hlen
    go_enter Tryd.func84, Tryd.ntmps84
    go_wp2
    go_loopw [5] (fun i wr => ∃ k : Nat, k ≤ l.length ∧ i = .int .i64 k ∧ SameTo l m k ∧ Mod (fun _ => False) w wr) (fun i _ => l.length - (intOf i).toNat)
    case atStart => exact ⟨0, by omega, rfl, rfl, Mod.refl _ _⟩
    case round =>
      obtain ⟨k, hk, rfl, hsame, hmod⟩ := hrel
      by_cases hlt : k < l.length
      · obtain ⟨b, o, x, r, rfl, hb, hbw, hx, hr, hrl, hc⟩ := (H.out.mod hmod (fun _ _ f => f) (fun _ _ h => h)).get hlt
        obtain rfl : r = x.cells := hr
        obtain ⟨b', o', y, r', rfl, hb', hbw', hy, hr', hrl', hd⟩ := (H'.out.mod hmod (fun _ _ f => f) (fun _ _ h => h)).get (show k < m.length by omega)
        obtain rfl : r' = y.cells := hr'
        have hlt2 : k < m.length := by omega
        have c0 : wr.cell? ⟨b, o + k * 3, none⟩ = _ := hc 0 _ rfl
        have d0 : wr.cell? ⟨b', o' + k * 3, none⟩ = _ := hd 0 _ rfl
        have c1 : wr.cell? ⟨b, o + k * 3 + 1, none⟩ = _ := hc 1 _ rfl
        have d1 : wr.cell? ⟨b', o' + k * 3 + 1, none⟩ = _ := hd 1 _ rfl
        have c2 : wr.cell? ⟨b, o + k * 3 + 2, none⟩ = _ := hc 2 _ rfl
        have d2 : wr.cell? ⟨b', o' + k * 3 + 2, none⟩ = _ := hd 2 _ rfl
        clear hc hd hrl hrl'
        by_cases hxy : x = y
        · have hd : decide (x = y) = true := decide_eq_true hxy
          have Hxy := hid hxy
          clear hxy
          go_wp2
          go_still_tail 8, (by kernel_rfl)
          go_wp2_with fail
          refine (eqRule_any x y _).mono ?_
          rintro e w1 ⟨rfl, hm1⟩
          go_wp2
          go_roundw
          case rel => exact ⟨k + 1, by omega, by go_num, hsame.succ hx (Hxy.out ▸ hy), hmod.drew.thenNone hm1⟩
          case measure => simp [intOf]; omega
        · have hd : decide (x = y) = false := decide_eq_false hxy
          go_wp2
          go_still_tail 8, (by kernel_rfl)
          go_wp2_with fail
          refine (eqRule_any x y _).mono ?_
          rintro e w1 ⟨rfl, hm1⟩
          go_wp2
          go_ret
          exact ⟨ret_bool (decide_eq_false (ne_at hx hy hxy)).symm, hmod.drew.thenNone hm1⟩
      · go_wp2
        go_ret
        exact ⟨ret_bool (decide_eq_true (hsame.all (by omega) (by omega))).symm, hmod⟩
  · have hn0 : ((l.length : Int) != (m.length : Int)) = true := by simp; omega
    have hne : l ≠ m := fun h => hlen (by rw [h])
    clear hlen
    go_enter Tryd.func84, Tryd.ntmps84
    go_wp2
    go_ret
    exact ⟨ret_bool (decide_eq_false hne).symm, Mod.refl _ _⟩

/-- A marked element's cells, its first mark q. -/
def Rule.marked (q : Int) : List Value := [.int .i64 (q), .int .i64 (q + 1), .int .i64 (q + 1 + 1)]
def Rule.marks (q : Int) : Nat → List Value
  | 0 => []
  | k + 1 => Rule.marks q k ++ Rule.marked (q + k * 3)
theorem Rule.marks_length (q : Int) (k : Nat) : (Rule.marks q k).length = k * 3 := by
  induction k with
  | zero => simp [Rule.marks]
  | succ k ih => simp [Rule.marks, Rule.marked, ih]; omega

set_option maxRecDepth 100000 in
set_option maxHeartbeats 1000000 in
theorem markRuleS_any (n c : Nat) (a : Option Addr) (g N : Nat) (w : World) (q0 : Int) (hq0 : 0 ≤ q0) (hq1 : q0 ≤ 1000000000000000) (hn : n ≤ 1048576) (h : n = 0 ∨ a = some ⟨g, 0, none⟩ ∧ n * 3 ≤ N ∧ Filled g 127 N w []) :
    Calls Tryd.prog 85 #[.slice a n c, .int .i64 q0] w fun e w' => e = .returned (.int .i64 (q0 + n * 3)) ∧ Mod (fun k => k = g) w w' ∧ (n = 0 ∨ Filled g 127 N w' (Rule.marks q0 n)) := by
  have H := hid h
  clear h
  go_enter Tryd.func85, Tryd.ntmps85
  go_wp2
  go_loopw [1, 5] (fun z i wr => ∃ (k : Nat) (q : Int), k ≤ n ∧ z = .int .i64 q ∧ Hid (q = q0 + k * 3) ∧ 0 ≤ q ∧ q ≤ 10000000000000000 ∧ i = .int .i64 k ∧ Mod (fun k => k = g) w wr ∧ (n = 0 ∨ Filled g 127 N wr (Rule.marks q0 k))) (fun _ i _ => n - (intOf i).toNat)
  case atStart =>
    refine ⟨0, q0, by omega, rfl, by show q0 = q0 + _; omega, by omega, by omega, rfl, Mod.refl _ _, ?_⟩
    rcases H.out with h | ⟨_, _, h⟩
    · exact .inl h
    · exact .inr h
  case round =>
    obtain ⟨k, q, hk, rfl, hq, q1, q2, rfl, hM, hF0⟩ := hrel
    by_cases hlt : k < n
    · rcases H.out with h | ⟨rfl, hN, _⟩
      · omega
      have hF := hF0.resolve_left (by omega)
      have hl0 := Rule.marks_length q0 k
      clear hF0
      obtain ⟨v0, d0⟩ := hF.cell (off := k * 3) (by omega)
      have z0 := hF.free (k * 3)
      obtain ⟨v1, d1⟩ := hF.cell (off := k * 3 + 1) (by omega)
      have z1 := hF.free (k * 3 + 1)
      obtain ⟨v2, d2⟩ := hF.cell (off := k * 3 + 2) (by omega)
      have z2 := hF.free (k * 3 + 2)
      have HF := hid hF
      have Hl0 := hid hl0
      clear hF hl0
      go_wp2
      go_roundw
      case rel =>
        have hF := HF.out
        have hl0 := Hl0.out
        have hq' := hq.out
        refine ⟨k + 1, q + 1 + 1 + 1, by omega, rfl, by show q + 1 + 1 + 1 = _; omega, by omega, by omega, by go_num, by (repeat (first | with_reducible exact Mod.refl _ _ | with_reducible refine Mod.drewN ?_ _ | with_reducible refine Mod.drew ?_ | with_reducible refine Mod.alloc ?_ _ | ((with_reducible refine Mod.setNew ?_ ?_ _ _ _); (rotate_left; omega)) | with_reducible refine Mod.setAt ?_ _ _ _ | with_reducible exact hM | with_reducible refine Mod.thenNone ?_ hM )), .inr ?_⟩
        have e : Rule.marks q0 (k + 1) = Rule.marks q0 k ++ [.int .i64 (q)] ++ [.int .i64 (q + 1)] ++ [.int .i64 (q + 1 + 1)] := by
          simp [Rule.marks, Rule.marked, ← hq']
        rw [e]
        exact (((hF.push (off := k * 3) (by simp [hl0]) (by omega) _).push (off := k * 3 + 1) (by simp [hl0]) (by omega) _).push (off := k * 3 + 2) (by simp [hl0]) (by omega) _)
      case measure => simp [intOf]; omega
    · have hk' : k = n := by omega
      subst hk'
      go_wp2
      go_ret
      exact ⟨ret_int hq.out, hM, hF0⟩

theorem Rule.marks_at (q0 : Int) (n k j : Nat) (v : Value) (hk : k < n) (hj : (Rule.marked (q0 + k * 3))[j]? = some v) : (Rule.marks q0 n)[k * 3 + j]? = some v := by
  have hjl : j < 3 := by
    have := (List.getElem?_eq_some_iff.1 hj).1
    simpa [Rule.marked] using this
  induction n with
  | zero => omega
  | succ n ih =>
    have hl := Rule.marks_length q0 n
    unfold Rule.marks
    by_cases e : k = n
    · subst e
      rw [List.getElem?_append_right (by omega), hl, Nat.add_sub_cancel_left]
      exact hj
    · rw [List.getElem?_append_left (by rw [hl]; omega)]
      exact ih (by omega)
end Go.Proofs.YthffgbhphjkdeaaDoor
namespace Go.Proofs.YthffgbhphjkdeaaDoor
open Go.RowKit

/-- A struct that holds one new slice. -/
def NewTable (e : TypeId) (w : World) (n : Nat) (xs : List Value) (en : Ending) (w' : World) : Prop :=
  ∃ g, en = .returned (.agg #[.slice (some ⟨g, 0, none⟩) n n]) ∧ w.heap.size ≤ g ∧ w'.heap[g]? = some (.cells xs.toArray e (0, 0)) ∧ Mod (fun _ => False) w w'

set_option maxHeartbeats 1000000 in
theorem toTable_any (l : List Rule) (a : Option Addr) (c : Nat) (R : Nat → Prop) (w : World) (hl : l.length ≤ 1048576) (h : SliceAt (Flat Rule.cells) 3 R w a l) :
    Calls Tryd.prog 95 #[.agg #[.slice a l.length c]] w (NewTable 127 w l.length (l.map Rule.cells).flatten) := by
  have H := hid h
  clear h
  go_enter Tryd.func95, Tryd.ntmps95
  go_wp2_with fail
  refine (toRuleS_any l _ _ _ _ hl (H.out.flatKeep (by (repeat (first | with_reducible exact Mod.refl _ _ | with_reducible refine Mod.drewN ?_ _ | with_reducible refine Mod.drew ?_ | with_reducible refine Mod.alloc ?_ _ | ((with_reducible refine Mod.setNew ?_ ?_ _ _ _); (rotate_left; omega)) | with_reducible refine Mod.setAt ?_ _ _ _ ))))).mono ?_
  rintro e w1 ⟨g, rfl, hg, hb, hm1⟩
  obtain ⟨hq1, hz1⟩ := mcell hm1
  have hs1 := hm1.size
  repeat (first | rw [World.size_alloc] at hs1 | rw [World.size_setCell] at hs1 | rw [World.size_drew] at hs1 | unfold World.drewN at hs1)
  have hr1_0 : w.heap.size < w1.heap.size := by omega
  have hr1_1 : w.heap.size + 1 < w1.heap.size := by omega
  have hr1_2 : w.heap.size + 1 + 1 < w1.heap.size := by omega
  simp only [World.size_alloc] at hg
  have hne : g ≠ w.heap.size + 1 + 1 := by omega
  have hne' : g ≠ w.heap.size + 1 := by omega
  have Hb := hid hb
  clear hb
  go_wp2
  refine bodyPost_ret (v := .agg #[.slice (some ⟨g, 0, none⟩) l.length l.length]) ?_ rfl ⟨g, rfl, by omega, ?_, ?_⟩
  · simp [results, Tryd.results95, go_sem, *]
  · simp only [blk_far hne, blk_far hne']
    exact Hb.out
  · (repeat (first | with_reducible exact Mod.refl _ _ | with_reducible refine Mod.drewN ?_ _ | with_reducible refine Mod.drew ?_ | with_reducible refine Mod.alloc ?_ _ | ((with_reducible refine Mod.setNew ?_ ?_ _ _ _); (rotate_left; omega)) | with_reducible refine Mod.setAt ?_ _ _ _ | with_reducible exact hm1 | with_reducible refine Mod.thenNone ?_ hm1 ))

set_option maxHeartbeats 1000000 in
theorem eqTable_any (l m : List Rule) (a a' : Option Addr) (c c' : Nat) (R S : Nat → Prop) (w : World) (hl : l.length ≤ 9223372036854775807) (hm : m.length ≤ 9223372036854775807) (h : SliceAt (Flat Rule.cells) 3 R w a l) (h' : SliceAt (Flat Rule.cells) 3 S w a' m) :
    Calls Tryd.prog 30 #[.agg #[.slice a l.length c], .agg #[.slice a' m.length c']] w fun e w' => e = .returned (.bool (decide (l = m))) ∧ Mod (fun _ => False) w w' := by
  have H := hid h
  have H' := hid h'
  clear h h'
  by_cases hx : l = m
  · have hd : decide (l = m) = true := decide_eq_true hx
    have Hx := hid hx
    clear hx
    go_enter Tryd.func30, Tryd.ntmps30
    go_wp2_with fail
    refine (eqRuleS_any l m _ _ _ _ _ _ _ hl hm (H.out.flatKeep (by (repeat (first | with_reducible exact Mod.refl _ _ | with_reducible refine Mod.drewN ?_ _ | with_reducible refine Mod.drew ?_ | with_reducible refine Mod.alloc ?_ _ | ((with_reducible refine Mod.setNew ?_ ?_ _ _ _); (rotate_left; omega)) | with_reducible refine Mod.setAt ?_ _ _ _ )))) (H'.out.flatKeep (by (repeat (first | with_reducible exact Mod.refl _ _ | with_reducible refine Mod.drewN ?_ _ | with_reducible refine Mod.drew ?_ | with_reducible refine Mod.alloc ?_ _ | ((with_reducible refine Mod.setNew ?_ ?_ _ _ _); (rotate_left; omega)) | with_reducible refine Mod.setAt ?_ _ _ _ ))))).mono ?_
    rintro e w1 ⟨rfl, hm1⟩
    go_wp2
    go_ret
    exact ⟨ret_bool hd.symm, by (repeat (first | with_reducible exact Mod.refl _ _ | with_reducible refine Mod.drewN ?_ _ | with_reducible refine Mod.drew ?_ | with_reducible refine Mod.alloc ?_ _ | ((with_reducible refine Mod.setNew ?_ ?_ _ _ _); (rotate_left; omega)) | with_reducible refine Mod.setAt ?_ _ _ _ | with_reducible exact hm1 | with_reducible refine Mod.thenNone ?_ hm1 ))⟩
  · have hd : decide (l = m) = false := decide_eq_false hx
    go_enter Tryd.func30, Tryd.ntmps30
    go_wp2_with fail
    refine (eqRuleS_any l m _ _ _ _ _ _ _ hl hm (H.out.flatKeep (by (repeat (first | with_reducible exact Mod.refl _ _ | with_reducible refine Mod.drewN ?_ _ | with_reducible refine Mod.drew ?_ | with_reducible refine Mod.alloc ?_ _ | ((with_reducible refine Mod.setNew ?_ ?_ _ _ _); (rotate_left; omega)) | with_reducible refine Mod.setAt ?_ _ _ _ )))) (H'.out.flatKeep (by (repeat (first | with_reducible exact Mod.refl _ _ | with_reducible refine Mod.drewN ?_ _ | with_reducible refine Mod.drew ?_ | with_reducible refine Mod.alloc ?_ _ | ((with_reducible refine Mod.setNew ?_ ?_ _ _ _); (rotate_left; omega)) | with_reducible refine Mod.setAt ?_ _ _ _ ))))).mono ?_
    rintro e w1 ⟨rfl, hm1⟩
    go_wp2
    go_ret
    exact ⟨ret_bool hd.symm, by (repeat (first | with_reducible exact Mod.refl _ _ | with_reducible refine Mod.drewN ?_ _ | with_reducible refine Mod.drew ?_ | with_reducible refine Mod.alloc ?_ _ | ((with_reducible refine Mod.setNew ?_ ?_ _ _ _); (rotate_left; omega)) | with_reducible refine Mod.setAt ?_ _ _ _ | with_reducible exact hm1 | with_reducible refine Mod.thenNone ?_ hm1 ))⟩

end Go.Proofs.YthffgbhphjkdeaaDoor
