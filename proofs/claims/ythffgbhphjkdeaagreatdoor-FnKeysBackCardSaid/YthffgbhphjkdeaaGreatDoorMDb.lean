/-
  PROVED: contracts of functions and words on memory, several texts put together: what each says stands at its theorems. Conditions: as told there.
-/
import Derived.Test.YthffgbhphjkdeaaGreatDoorMDa
import Derived.Test.YthffgbhphjkdeaaGreatDoorProg
import Derived.Test.YthffgbhphjkdeaaGreatDoorChecked
import Derived.Deep.QuietTactic
import Derived.BigQuiet
import Derived.Outline
import Derived.WalkLawsBesides
import Derived.Deep.RegionHeld3
import Derived.StillTailTactics
import Derived.Lib.ItoaMem
import Derived.Lib.ItoaLen
import Derived.Lib.ConvBytes
import Derived.Test.YthffgbhphjkdeaaGreatDoorShelf
import Derived.Lib.JoinSame
set_option linter.unusedVariables false
set_option linter.unusedSimpArgs false
namespace Go.Proofs.YthffgbhphjkdeaaGreatDoor

instance : TOne Tryz.prog 2 := ⟨⟨_, Tryz.underlying2, rfl⟩, by kernel_rfl⟩
instance : TEl Tryz.prog 2 1 8 (.int .i64 0) := ⟨by kernel_rfl, rfl, by decide⟩
instance : TZero Tryz.prog 2 [.int .i64 0] := ⟨.int .i64 0, by kernel_rfl, rfl⟩
instance : TOne Tryz.prog 3 := ⟨⟨_, Tryz.underlying3, rfl⟩, by kernel_rfl⟩
instance : TEl Tryz.prog 3 1 8 (.int .i64 0) := ⟨by kernel_rfl, rfl, by decide⟩
instance : TZero Tryz.prog 3 [.int .i64 0] := ⟨.int .i64 0, by kernel_rfl, rfl⟩
instance : TOne Tryz.prog 4 := ⟨⟨_, Tryz.underlying4, rfl⟩, by kernel_rfl⟩
instance : TBool Tryz.prog 4 := ⟨Tryz.underlying4⟩
instance : TEl Tryz.prog 4 1 1 (.bool false) := ⟨by kernel_rfl, rfl, by decide⟩
instance : TZero Tryz.prog 4 [.bool false] := ⟨.bool false, by kernel_rfl, rfl⟩
instance : TOne Tryz.prog 5 := ⟨⟨_, Tryz.underlying5, rfl⟩, by kernel_rfl⟩
instance : TEl Tryz.prog 5 1 1 (.int .u8 0) := ⟨by kernel_rfl, rfl, by decide⟩
instance : TZero Tryz.prog 5 [.int .u8 0] := ⟨.int .u8 0, by kernel_rfl, rfl⟩
instance : TOne Tryz.prog 6 := ⟨⟨_, Tryz.underlying6, rfl⟩, by kernel_rfl⟩
instance : TEl Tryz.prog 6 1 1 (.int .u8 0) := ⟨by kernel_rfl, rfl, by decide⟩
instance : TZero Tryz.prog 6 [.int .u8 0] := ⟨.int .u8 0, by kernel_rfl, rfl⟩
instance : TRow Tryz.prog 7 4 := ⟨⟨_, Tryz.underlying7, rfl⟩, by kernel_rfl⟩
instance : TFld Tryz.prog 7 0 0 := ⟨_, _, 0, Tryz.underlying7, rfl, rfl, by kernel_rfl⟩
instance : TFld Tryz.prog 7 1 1 := ⟨_, _, 0, Tryz.underlying7, rfl, rfl, by kernel_rfl⟩
instance : TFld Tryz.prog 7 2 2 := ⟨_, _, 0, Tryz.underlying7, rfl, rfl, by kernel_rfl⟩
instance : TFld Tryz.prog 7 3 3 := ⟨_, _, 0, Tryz.underlying7, rfl, rfl, by kernel_rfl⟩
instance : TEl Tryz.prog 7 4 24 (.agg #[.int .i64 0, .int .i64 0, .bool false, .int .u8 0]) := ⟨by kernel_rfl, rfl, by decide⟩
instance : TZero Tryz.prog 7 [.int .i64 0, .int .i64 0, .bool false, .int .u8 0] := ⟨.agg #[.int .i64 0, .int .i64 0, .bool false, .int .u8 0], by kernel_rfl, rfl⟩
instance : TRow Tryz.prog 8 4 := ⟨⟨_, Tryz.underlying8, rfl⟩, by kernel_rfl⟩
instance : TFld Tryz.prog 8 0 0 := ⟨_, _, 0, Tryz.underlying8, rfl, rfl, by kernel_rfl⟩
instance : TFld Tryz.prog 8 1 1 := ⟨_, _, 0, Tryz.underlying8, rfl, rfl, by kernel_rfl⟩
instance : TFld Tryz.prog 8 2 2 := ⟨_, _, 0, Tryz.underlying8, rfl, rfl, by kernel_rfl⟩
instance : TFld Tryz.prog 8 3 3 := ⟨_, _, 0, Tryz.underlying8, rfl, rfl, by kernel_rfl⟩
instance : TEl Tryz.prog 8 4 24 (.agg #[.int .i64 0, .int .i64 0, .bool false, .int .u8 0]) := ⟨by kernel_rfl, rfl, by decide⟩
instance : TZero Tryz.prog 8 [.int .i64 0, .int .i64 0, .bool false, .int .u8 0] := ⟨.agg #[.int .i64 0, .int .i64 0, .bool false, .int .u8 0], by kernel_rfl, rfl⟩
instance : TOne Tryz.prog 9 := ⟨⟨_, Tryz.underlying9, rfl⟩, by kernel_rfl⟩
instance : TStr Tryz.prog 9 := ⟨Tryz.underlying9⟩
instance : TEl Tryz.prog 9 1 16 (.string ⟨#[]⟩) := ⟨by kernel_rfl, rfl, by decide⟩
instance : TZero Tryz.prog 9 [.string ⟨#[]⟩] := ⟨.string ⟨#[]⟩, by kernel_rfl, rfl⟩
instance : TOne Tryz.prog 10 := ⟨⟨_, Tryz.underlying10, rfl⟩, by kernel_rfl⟩
instance : TStr Tryz.prog 10 := ⟨Tryz.underlying10⟩
instance : TEl Tryz.prog 10 1 16 (.string ⟨#[]⟩) := ⟨by kernel_rfl, rfl, by decide⟩
instance : TZero Tryz.prog 10 [.string ⟨#[]⟩] := ⟨.string ⟨#[]⟩, by kernel_rfl, rfl⟩
instance : TOne Tryz.prog 11 := ⟨⟨_, Tryz.underlying11, rfl⟩, by kernel_rfl⟩
instance : TStr Tryz.prog 11 := ⟨Tryz.underlying11⟩
instance : TEl Tryz.prog 11 1 16 (.string ⟨#[]⟩) := ⟨by kernel_rfl, rfl, by decide⟩
instance : TZero Tryz.prog 11 [.string ⟨#[]⟩] := ⟨.string ⟨#[]⟩, by kernel_rfl, rfl⟩
instance : TOne Tryz.prog 12 := ⟨⟨_, Tryz.underlying12, rfl⟩, by kernel_rfl⟩
instance : TEl Tryz.prog 12 1 8 (.int .u64 0) := ⟨by kernel_rfl, rfl, by decide⟩
instance : TZero Tryz.prog 12 [.int .u64 0] := ⟨.int .u64 0, by kernel_rfl, rfl⟩
instance : TRow Tryz.prog 13 2 := ⟨⟨_, Tryz.underlying13, rfl⟩, by kernel_rfl⟩
instance : TFld Tryz.prog 13 0 0 := ⟨_, _, 0, Tryz.underlying13, rfl, rfl, by kernel_rfl⟩
instance : TFld Tryz.prog 13 1 1 := ⟨_, _, 0, Tryz.underlying13, rfl, rfl, by kernel_rfl⟩
instance : TEl Tryz.prog 13 2 24 (.agg #[.string ⟨#[]⟩, .int .u64 0]) := ⟨by kernel_rfl, rfl, by decide⟩
instance : TZero Tryz.prog 13 [.string ⟨#[]⟩, .int .u64 0] := ⟨.agg #[.string ⟨#[]⟩, .int .u64 0], by kernel_rfl, rfl⟩
instance : TRow Tryz.prog 14 2 := ⟨⟨_, Tryz.underlying14, rfl⟩, by kernel_rfl⟩
instance : TFld Tryz.prog 14 0 0 := ⟨_, _, 0, Tryz.underlying14, rfl, rfl, by kernel_rfl⟩
instance : TFld Tryz.prog 14 1 1 := ⟨_, _, 0, Tryz.underlying14, rfl, rfl, by kernel_rfl⟩
instance : TEl Tryz.prog 14 2 24 (.agg #[.string ⟨#[]⟩, .int .u64 0]) := ⟨by kernel_rfl, rfl, by decide⟩
instance : TZero Tryz.prog 14 [.string ⟨#[]⟩, .int .u64 0] := ⟨.agg #[.string ⟨#[]⟩, .int .u64 0], by kernel_rfl, rfl⟩
instance : TOne Tryz.prog 15 := ⟨⟨_, Tryz.underlying15, rfl⟩, by kernel_rfl⟩
instance : TPtr Tryz.prog 15 := ⟨⟨_, Tryz.underlying15⟩⟩
instance : TEl Tryz.prog 15 1 8 (.pointer none) := ⟨by kernel_rfl, rfl, by decide⟩
instance : TZero Tryz.prog 15 [.pointer none] := ⟨.pointer none, by kernel_rfl, rfl⟩
instance : TOne Tryz.prog 16 := ⟨⟨_, Tryz.underlying16, rfl⟩, by kernel_rfl⟩
instance : TPtr Tryz.prog 16 := ⟨⟨_, Tryz.underlying16⟩⟩
instance : TEl Tryz.prog 16 1 8 (.pointer none) := ⟨by kernel_rfl, rfl, by decide⟩
instance : TZero Tryz.prog 16 [.pointer none] := ⟨.pointer none, by kernel_rfl, rfl⟩
instance : TOne Tryz.prog 17 := ⟨⟨_, Tryz.underlying17, rfl⟩, by kernel_rfl⟩
instance : TPtr Tryz.prog 17 := ⟨⟨_, Tryz.underlying17⟩⟩
instance : TEl Tryz.prog 17 1 8 (.pointer none) := ⟨by kernel_rfl, rfl, by decide⟩
instance : TZero Tryz.prog 17 [.pointer none] := ⟨.pointer none, by kernel_rfl, rfl⟩
instance : TRow Tryz.prog 18 1 := ⟨⟨_, Tryz.underlying18, rfl⟩, by kernel_rfl⟩
instance : TFld Tryz.prog 18 0 0 := ⟨_, _, 0, Tryz.underlying18, rfl, rfl, by kernel_rfl⟩
instance : TEl Tryz.prog 18 1 8 (.agg #[.pointer none]) := ⟨by kernel_rfl, rfl, by decide⟩
instance : TZero Tryz.prog 18 [.pointer none] := ⟨.agg #[.pointer none], by kernel_rfl, rfl⟩
instance : TRow Tryz.prog 19 1 := ⟨⟨_, Tryz.underlying19, rfl⟩, by kernel_rfl⟩
instance : TFld Tryz.prog 19 0 0 := ⟨_, _, 0, Tryz.underlying19, rfl, rfl, by kernel_rfl⟩
instance : TEl Tryz.prog 19 1 8 (.agg #[.pointer none]) := ⟨by kernel_rfl, rfl, by decide⟩
instance : TZero Tryz.prog 19 [.pointer none] := ⟨.agg #[.pointer none], by kernel_rfl, rfl⟩
instance : TOne Tryz.prog 21 := ⟨⟨_, Tryz.underlying21, rfl⟩, by kernel_rfl⟩
instance : TEl Tryz.prog 21 1 4 (.int .i32 0) := ⟨by kernel_rfl, rfl, by decide⟩
instance : TZero Tryz.prog 21 [.int .i32 0] := ⟨.int .i32 0, by kernel_rfl, rfl⟩
instance : TOne Tryz.prog 22 := ⟨⟨_, Tryz.underlying22, rfl⟩, by kernel_rfl⟩
instance : TSl Tryz.prog 22 5 1 := ⟨Tryz.underlying22, by kernel_rfl⟩
instance : TEl Tryz.prog 22 1 24 (.slice none 0 0) := ⟨by kernel_rfl, rfl, by decide⟩
instance : TZero Tryz.prog 22 [.slice none 0 0] := ⟨.slice none 0 0, by kernel_rfl, rfl⟩
instance : TRow Tryz.prog 24 2 := ⟨⟨_, Tryz.underlying24, rfl⟩, by kernel_rfl⟩
instance : TFld Tryz.prog 24 0 0 := ⟨_, _, 0, Tryz.underlying24, rfl, rfl, by kernel_rfl⟩
instance : TFld Tryz.prog 24 1 1 := ⟨_, _, 0, Tryz.underlying24, rfl, rfl, by kernel_rfl⟩
instance : TEq Tryz.prog 24 [0, 0] := ⟨by kernel_rfl, by kernel_rfl, _, Tryz.underlying24⟩
instance : TEl Tryz.prog 24 2 16 (.agg #[.int .i64 0, .int .i64 0]) := ⟨by kernel_rfl, rfl, by decide⟩
instance : TZero Tryz.prog 24 [.int .i64 0, .int .i64 0] := ⟨.agg #[.int .i64 0, .int .i64 0], by kernel_rfl, rfl⟩
instance : TRow Tryz.prog 25 2 := ⟨⟨_, Tryz.underlying25, rfl⟩, by kernel_rfl⟩
instance : TFld Tryz.prog 25 0 0 := ⟨_, _, 0, Tryz.underlying25, rfl, rfl, by kernel_rfl⟩
instance : TFld Tryz.prog 25 1 1 := ⟨_, _, 0, Tryz.underlying25, rfl, rfl, by kernel_rfl⟩
instance : TEq Tryz.prog 25 [0, 0] := ⟨by kernel_rfl, by kernel_rfl, _, Tryz.underlying25⟩
instance : TEl Tryz.prog 25 2 16 (.agg #[.int .i64 0, .int .i64 0]) := ⟨by kernel_rfl, rfl, by decide⟩
instance : TZero Tryz.prog 25 [.int .i64 0, .int .i64 0] := ⟨.agg #[.int .i64 0, .int .i64 0], by kernel_rfl, rfl⟩
instance : TRow Tryz.prog 26 12 := ⟨⟨_, Tryz.underlying26, rfl⟩, by kernel_rfl⟩
instance : TFld Tryz.prog 26 0 0 := ⟨_, _, 1, Tryz.underlying26, rfl, rfl, by kernel_rfl⟩
instance : TFld Tryz.prog 26 1 2 := ⟨_, _, 1, Tryz.underlying26, rfl, rfl, by kernel_rfl⟩
instance : TFld Tryz.prog 26 2 4 := ⟨_, _, 1, Tryz.underlying26, rfl, rfl, by kernel_rfl⟩
instance : TFld Tryz.prog 26 3 6 := ⟨_, _, 1, Tryz.underlying26, rfl, rfl, by kernel_rfl⟩
instance : TFld Tryz.prog 26 4 8 := ⟨_, _, 1, Tryz.underlying26, rfl, rfl, by kernel_rfl⟩
instance : TFld Tryz.prog 26 5 10 := ⟨_, _, 1, Tryz.underlying26, rfl, rfl, by kernel_rfl⟩
instance : TEq Tryz.prog 26 [0, 0, 0, 0, 0, 0, 0, 0, 0, 0, 0, 0] := ⟨by kernel_rfl, by kernel_rfl, _, Tryz.underlying26⟩
instance : TEl Tryz.prog 26 12 96 (.agg #[.int .i64 0, .int .i64 0, .int .i64 0, .int .i64 0, .int .i64 0, .int .i64 0, .int .i64 0, .int .i64 0, .int .i64 0, .int .i64 0, .int .i64 0, .int .i64 0]) := ⟨by kernel_rfl, rfl, by decide⟩
instance : TZero Tryz.prog 26 [.int .i64 0, .int .i64 0, .int .i64 0, .int .i64 0, .int .i64 0, .int .i64 0, .int .i64 0, .int .i64 0, .int .i64 0, .int .i64 0, .int .i64 0, .int .i64 0] := ⟨.agg #[.int .i64 0, .int .i64 0, .int .i64 0, .int .i64 0, .int .i64 0, .int .i64 0, .int .i64 0, .int .i64 0, .int .i64 0, .int .i64 0, .int .i64 0, .int .i64 0], by kernel_rfl, rfl⟩
instance : TRow Tryz.prog 27 12 := ⟨⟨_, Tryz.underlying27, rfl⟩, by kernel_rfl⟩
instance : TFld Tryz.prog 27 0 0 := ⟨_, _, 1, Tryz.underlying27, rfl, rfl, by kernel_rfl⟩
instance : TFld Tryz.prog 27 1 2 := ⟨_, _, 1, Tryz.underlying27, rfl, rfl, by kernel_rfl⟩
instance : TFld Tryz.prog 27 2 4 := ⟨_, _, 1, Tryz.underlying27, rfl, rfl, by kernel_rfl⟩
instance : TFld Tryz.prog 27 3 6 := ⟨_, _, 1, Tryz.underlying27, rfl, rfl, by kernel_rfl⟩
instance : TFld Tryz.prog 27 4 8 := ⟨_, _, 1, Tryz.underlying27, rfl, rfl, by kernel_rfl⟩
instance : TFld Tryz.prog 27 5 10 := ⟨_, _, 1, Tryz.underlying27, rfl, rfl, by kernel_rfl⟩
instance : TEq Tryz.prog 27 [0, 0, 0, 0, 0, 0, 0, 0, 0, 0, 0, 0] := ⟨by kernel_rfl, by kernel_rfl, _, Tryz.underlying27⟩
instance : TEl Tryz.prog 27 12 96 (.agg #[.int .i64 0, .int .i64 0, .int .i64 0, .int .i64 0, .int .i64 0, .int .i64 0, .int .i64 0, .int .i64 0, .int .i64 0, .int .i64 0, .int .i64 0, .int .i64 0]) := ⟨by kernel_rfl, rfl, by decide⟩
instance : TZero Tryz.prog 27 [.int .i64 0, .int .i64 0, .int .i64 0, .int .i64 0, .int .i64 0, .int .i64 0, .int .i64 0, .int .i64 0, .int .i64 0, .int .i64 0, .int .i64 0, .int .i64 0] := ⟨.agg #[.int .i64 0, .int .i64 0, .int .i64 0, .int .i64 0, .int .i64 0, .int .i64 0, .int .i64 0, .int .i64 0, .int .i64 0, .int .i64 0, .int .i64 0, .int .i64 0], by kernel_rfl, rfl⟩
instance : TRow Tryz.prog 28 4 := ⟨⟨_, Tryz.underlying28, rfl⟩, by kernel_rfl⟩
instance : TFld Tryz.prog 28 0 0 := ⟨_, _, 0, Tryz.underlying28, rfl, rfl, by kernel_rfl⟩
instance : TFld Tryz.prog 28 1 1 := ⟨_, _, 0, Tryz.underlying28, rfl, rfl, by kernel_rfl⟩
instance : TFld Tryz.prog 28 2 2 := ⟨_, _, 0, Tryz.underlying28, rfl, rfl, by kernel_rfl⟩
instance : TFld Tryz.prog 28 3 3 := ⟨_, _, 0, Tryz.underlying28, rfl, rfl, by kernel_rfl⟩
instance : TEq Tryz.prog 28 [0, 0, 0, 0] := ⟨by kernel_rfl, by kernel_rfl, _, Tryz.underlying28⟩
instance : TEl Tryz.prog 28 4 32 (.agg #[.int .i64 0, .int .i64 0, .int .i64 0, .int .i64 0]) := ⟨by kernel_rfl, rfl, by decide⟩
instance : TZero Tryz.prog 28 [.int .i64 0, .int .i64 0, .int .i64 0, .int .i64 0] := ⟨.agg #[.int .i64 0, .int .i64 0, .int .i64 0, .int .i64 0], by kernel_rfl, rfl⟩
instance : TRow Tryz.prog 29 4 := ⟨⟨_, Tryz.underlying29, rfl⟩, by kernel_rfl⟩
instance : TFld Tryz.prog 29 0 0 := ⟨_, _, 0, Tryz.underlying29, rfl, rfl, by kernel_rfl⟩
instance : TFld Tryz.prog 29 1 1 := ⟨_, _, 0, Tryz.underlying29, rfl, rfl, by kernel_rfl⟩
instance : TFld Tryz.prog 29 2 2 := ⟨_, _, 0, Tryz.underlying29, rfl, rfl, by kernel_rfl⟩
instance : TFld Tryz.prog 29 3 3 := ⟨_, _, 0, Tryz.underlying29, rfl, rfl, by kernel_rfl⟩
instance : TEq Tryz.prog 29 [0, 0, 0, 0] := ⟨by kernel_rfl, by kernel_rfl, _, Tryz.underlying29⟩
instance : TEl Tryz.prog 29 4 32 (.agg #[.int .i64 0, .int .i64 0, .int .i64 0, .int .i64 0]) := ⟨by kernel_rfl, rfl, by decide⟩
instance : TZero Tryz.prog 29 [.int .i64 0, .int .i64 0, .int .i64 0, .int .i64 0] := ⟨.agg #[.int .i64 0, .int .i64 0, .int .i64 0, .int .i64 0], by kernel_rfl, rfl⟩
instance : TRow Tryz.prog 30 60 := ⟨⟨_, Tryz.underlying30, rfl⟩, by kernel_rfl⟩
instance : TFld Tryz.prog 30 0 0 := ⟨_, _, 0, Tryz.underlying30, rfl, rfl, by kernel_rfl⟩
instance : TFld Tryz.prog 30 1 1 := ⟨_, _, 0, Tryz.underlying30, rfl, rfl, by kernel_rfl⟩
instance : TFld Tryz.prog 30 2 2 := ⟨_, _, 0, Tryz.underlying30, rfl, rfl, by kernel_rfl⟩
instance : TFld Tryz.prog 30 3 3 := ⟨_, _, 0, Tryz.underlying30, rfl, rfl, by kernel_rfl⟩
instance : TFld Tryz.prog 30 4 4 := ⟨_, _, 0, Tryz.underlying30, rfl, rfl, by kernel_rfl⟩
instance : TFld Tryz.prog 30 5 5 := ⟨_, _, 0, Tryz.underlying30, rfl, rfl, by kernel_rfl⟩
instance : TFld Tryz.prog 30 6 6 := ⟨_, _, 0, Tryz.underlying30, rfl, rfl, by kernel_rfl⟩
instance : TFld Tryz.prog 30 7 7 := ⟨_, _, 0, Tryz.underlying30, rfl, rfl, by kernel_rfl⟩
instance : TFld Tryz.prog 30 8 8 := ⟨_, _, 0, Tryz.underlying30, rfl, rfl, by kernel_rfl⟩
instance : TFld Tryz.prog 30 9 9 := ⟨_, _, 0, Tryz.underlying30, rfl, rfl, by kernel_rfl⟩
instance : TFld Tryz.prog 30 10 10 := ⟨_, _, 0, Tryz.underlying30, rfl, rfl, by kernel_rfl⟩
instance : TFld Tryz.prog 30 11 11 := ⟨_, _, 1, Tryz.underlying30, rfl, rfl, by kernel_rfl⟩
instance : TFld Tryz.prog 30 12 13 := ⟨_, _, 1, Tryz.underlying30, rfl, rfl, by kernel_rfl⟩
instance : TFld Tryz.prog 30 13 15 := ⟨_, _, 1, Tryz.underlying30, rfl, rfl, by kernel_rfl⟩
instance : TFld Tryz.prog 30 14 17 := ⟨_, _, 1, Tryz.underlying30, rfl, rfl, by kernel_rfl⟩
instance : TFld Tryz.prog 30 15 19 := ⟨_, _, 1, Tryz.underlying30, rfl, rfl, by kernel_rfl⟩
instance : TFld Tryz.prog 30 16 21 := ⟨_, _, 1, Tryz.underlying30, rfl, rfl, by kernel_rfl⟩
instance : TFld Tryz.prog 30 17 23 := ⟨_, _, 1, Tryz.underlying30, rfl, rfl, by kernel_rfl⟩
instance : TFld Tryz.prog 30 18 25 := ⟨_, _, 0, Tryz.underlying30, rfl, rfl, by kernel_rfl⟩
instance : TFld Tryz.prog 30 19 26 := ⟨_, _, 11, Tryz.underlying30, rfl, rfl, by kernel_rfl⟩
instance : TFld Tryz.prog 30 20 38 := ⟨_, _, 11, Tryz.underlying30, rfl, rfl, by kernel_rfl⟩
instance : TFld Tryz.prog 30 21 50 := ⟨_, _, 3, Tryz.underlying30, rfl, rfl, by kernel_rfl⟩
instance : TFld Tryz.prog 30 22 54 := ⟨_, _, 3, Tryz.underlying30, rfl, rfl, by kernel_rfl⟩
instance : TFld Tryz.prog 30 23 58 := ⟨_, _, 0, Tryz.underlying30, rfl, rfl, by kernel_rfl⟩
instance : TFld Tryz.prog 30 24 59 := ⟨_, _, 0, Tryz.underlying30, rfl, rfl, by kernel_rfl⟩
instance : TEq Tryz.prog 30 [0, 0, 0, 0, 0, 0, 1, 1, 0, 0, 0, 0, 0, 0, 0, 0, 0, 0, 0, 0, 0, 0, 0, 0, 0, 0, 0, 0, 0, 0, 0, 0, 0, 0, 0, 0, 0, 0, 0, 0, 0, 0, 0, 0, 0, 0, 0, 0, 0, 0, 0, 0, 0, 0, 0, 0, 0, 0, 0, 0] := ⟨by kernel_rfl, by kernel_rfl, _, Tryz.underlying30⟩
instance : TEl Tryz.prog 30 60 472 (.agg #[.int .i64 0, .int .i64 0, .int .i64 0, .int .i64 0, .int .i64 0, .int .i64 0, .bool false, .bool false, .int .i64 0, .int .i64 0, .int .i64 0, .int .i64 0, .int .i64 0, .int .i64 0, .int .i64 0, .int .i64 0, .int .i64 0, .int .i64 0, .int .i64 0, .int .i64 0, .int .i64 0, .int .i64 0, .int .i64 0, .int .i64 0, .int .i64 0, .int .i64 0, .int .i64 0, .int .i64 0, .int .i64 0, .int .i64 0, .int .i64 0, .int .i64 0, .int .i64 0, .int .i64 0, .int .i64 0, .int .i64 0, .int .i64 0, .int .i64 0, .int .i64 0, .int .i64 0, .int .i64 0, .int .i64 0, .int .i64 0, .int .i64 0, .int .i64 0, .int .i64 0, .int .i64 0, .int .i64 0, .int .i64 0, .int .i64 0, .int .i64 0, .int .i64 0, .int .i64 0, .int .i64 0, .int .i64 0, .int .i64 0, .int .i64 0, .int .i64 0, .int .i64 0, .int .i64 0]) := ⟨by kernel_rfl, rfl, by decide⟩
instance : TZero Tryz.prog 30 [.int .i64 0, .int .i64 0, .int .i64 0, .int .i64 0, .int .i64 0, .int .i64 0, .bool false, .bool false, .int .i64 0, .int .i64 0, .int .i64 0, .int .i64 0, .int .i64 0, .int .i64 0, .int .i64 0, .int .i64 0, .int .i64 0, .int .i64 0, .int .i64 0, .int .i64 0, .int .i64 0, .int .i64 0, .int .i64 0, .int .i64 0, .int .i64 0, .int .i64 0, .int .i64 0, .int .i64 0, .int .i64 0, .int .i64 0, .int .i64 0, .int .i64 0, .int .i64 0, .int .i64 0, .int .i64 0, .int .i64 0, .int .i64 0, .int .i64 0, .int .i64 0, .int .i64 0, .int .i64 0, .int .i64 0, .int .i64 0, .int .i64 0, .int .i64 0, .int .i64 0, .int .i64 0, .int .i64 0, .int .i64 0, .int .i64 0, .int .i64 0, .int .i64 0, .int .i64 0, .int .i64 0, .int .i64 0, .int .i64 0, .int .i64 0, .int .i64 0, .int .i64 0, .int .i64 0] := ⟨.agg #[.int .i64 0, .int .i64 0, .int .i64 0, .int .i64 0, .int .i64 0, .int .i64 0, .bool false, .bool false, .int .i64 0, .int .i64 0, .int .i64 0, .int .i64 0, .int .i64 0, .int .i64 0, .int .i64 0, .int .i64 0, .int .i64 0, .int .i64 0, .int .i64 0, .int .i64 0, .int .i64 0, .int .i64 0, .int .i64 0, .int .i64 0, .int .i64 0, .int .i64 0, .int .i64 0, .int .i64 0, .int .i64 0, .int .i64 0, .int .i64 0, .int .i64 0, .int .i64 0, .int .i64 0, .int .i64 0, .int .i64 0, .int .i64 0, .int .i64 0, .int .i64 0, .int .i64 0, .int .i64 0, .int .i64 0, .int .i64 0, .int .i64 0, .int .i64 0, .int .i64 0, .int .i64 0, .int .i64 0, .int .i64 0, .int .i64 0, .int .i64 0, .int .i64 0, .int .i64 0, .int .i64 0, .int .i64 0, .int .i64 0, .int .i64 0, .int .i64 0, .int .i64 0, .int .i64 0], by kernel_rfl, rfl⟩
instance : TRow Tryz.prog 31 60 := ⟨⟨_, Tryz.underlying31, rfl⟩, by kernel_rfl⟩
instance : TFld Tryz.prog 31 0 0 := ⟨_, _, 0, Tryz.underlying31, rfl, rfl, by kernel_rfl⟩
instance : TFld Tryz.prog 31 1 1 := ⟨_, _, 0, Tryz.underlying31, rfl, rfl, by kernel_rfl⟩
instance : TFld Tryz.prog 31 2 2 := ⟨_, _, 0, Tryz.underlying31, rfl, rfl, by kernel_rfl⟩
instance : TFld Tryz.prog 31 3 3 := ⟨_, _, 0, Tryz.underlying31, rfl, rfl, by kernel_rfl⟩
instance : TFld Tryz.prog 31 4 4 := ⟨_, _, 0, Tryz.underlying31, rfl, rfl, by kernel_rfl⟩
instance : TFld Tryz.prog 31 5 5 := ⟨_, _, 0, Tryz.underlying31, rfl, rfl, by kernel_rfl⟩
instance : TFld Tryz.prog 31 6 6 := ⟨_, _, 0, Tryz.underlying31, rfl, rfl, by kernel_rfl⟩
instance : TFld Tryz.prog 31 7 7 := ⟨_, _, 0, Tryz.underlying31, rfl, rfl, by kernel_rfl⟩
instance : TFld Tryz.prog 31 8 8 := ⟨_, _, 0, Tryz.underlying31, rfl, rfl, by kernel_rfl⟩
instance : TFld Tryz.prog 31 9 9 := ⟨_, _, 0, Tryz.underlying31, rfl, rfl, by kernel_rfl⟩
instance : TFld Tryz.prog 31 10 10 := ⟨_, _, 0, Tryz.underlying31, rfl, rfl, by kernel_rfl⟩
instance : TFld Tryz.prog 31 11 11 := ⟨_, _, 1, Tryz.underlying31, rfl, rfl, by kernel_rfl⟩
instance : TFld Tryz.prog 31 12 13 := ⟨_, _, 1, Tryz.underlying31, rfl, rfl, by kernel_rfl⟩
instance : TFld Tryz.prog 31 13 15 := ⟨_, _, 1, Tryz.underlying31, rfl, rfl, by kernel_rfl⟩
instance : TFld Tryz.prog 31 14 17 := ⟨_, _, 1, Tryz.underlying31, rfl, rfl, by kernel_rfl⟩
instance : TFld Tryz.prog 31 15 19 := ⟨_, _, 1, Tryz.underlying31, rfl, rfl, by kernel_rfl⟩
instance : TFld Tryz.prog 31 16 21 := ⟨_, _, 1, Tryz.underlying31, rfl, rfl, by kernel_rfl⟩
instance : TFld Tryz.prog 31 17 23 := ⟨_, _, 1, Tryz.underlying31, rfl, rfl, by kernel_rfl⟩
instance : TFld Tryz.prog 31 18 25 := ⟨_, _, 0, Tryz.underlying31, rfl, rfl, by kernel_rfl⟩
instance : TFld Tryz.prog 31 19 26 := ⟨_, _, 11, Tryz.underlying31, rfl, rfl, by kernel_rfl⟩
instance : TFld Tryz.prog 31 20 38 := ⟨_, _, 11, Tryz.underlying31, rfl, rfl, by kernel_rfl⟩
instance : TFld Tryz.prog 31 21 50 := ⟨_, _, 3, Tryz.underlying31, rfl, rfl, by kernel_rfl⟩
instance : TFld Tryz.prog 31 22 54 := ⟨_, _, 3, Tryz.underlying31, rfl, rfl, by kernel_rfl⟩
instance : TFld Tryz.prog 31 23 58 := ⟨_, _, 0, Tryz.underlying31, rfl, rfl, by kernel_rfl⟩
instance : TFld Tryz.prog 31 24 59 := ⟨_, _, 0, Tryz.underlying31, rfl, rfl, by kernel_rfl⟩
instance : TEq Tryz.prog 31 [0, 0, 0, 0, 0, 0, 1, 1, 0, 0, 0, 0, 0, 0, 0, 0, 0, 0, 0, 0, 0, 0, 0, 0, 0, 0, 0, 0, 0, 0, 0, 0, 0, 0, 0, 0, 0, 0, 0, 0, 0, 0, 0, 0, 0, 0, 0, 0, 0, 0, 0, 0, 0, 0, 0, 0, 0, 0, 0, 0] := ⟨by kernel_rfl, by kernel_rfl, _, Tryz.underlying31⟩
instance : TEl Tryz.prog 31 60 472 (.agg #[.int .i64 0, .int .i64 0, .int .i64 0, .int .i64 0, .int .i64 0, .int .i64 0, .bool false, .bool false, .int .i64 0, .int .i64 0, .int .i64 0, .int .i64 0, .int .i64 0, .int .i64 0, .int .i64 0, .int .i64 0, .int .i64 0, .int .i64 0, .int .i64 0, .int .i64 0, .int .i64 0, .int .i64 0, .int .i64 0, .int .i64 0, .int .i64 0, .int .i64 0, .int .i64 0, .int .i64 0, .int .i64 0, .int .i64 0, .int .i64 0, .int .i64 0, .int .i64 0, .int .i64 0, .int .i64 0, .int .i64 0, .int .i64 0, .int .i64 0, .int .i64 0, .int .i64 0, .int .i64 0, .int .i64 0, .int .i64 0, .int .i64 0, .int .i64 0, .int .i64 0, .int .i64 0, .int .i64 0, .int .i64 0, .int .i64 0, .int .i64 0, .int .i64 0, .int .i64 0, .int .i64 0, .int .i64 0, .int .i64 0, .int .i64 0, .int .i64 0, .int .i64 0, .int .i64 0]) := ⟨by kernel_rfl, rfl, by decide⟩
instance : TZero Tryz.prog 31 [.int .i64 0, .int .i64 0, .int .i64 0, .int .i64 0, .int .i64 0, .int .i64 0, .bool false, .bool false, .int .i64 0, .int .i64 0, .int .i64 0, .int .i64 0, .int .i64 0, .int .i64 0, .int .i64 0, .int .i64 0, .int .i64 0, .int .i64 0, .int .i64 0, .int .i64 0, .int .i64 0, .int .i64 0, .int .i64 0, .int .i64 0, .int .i64 0, .int .i64 0, .int .i64 0, .int .i64 0, .int .i64 0, .int .i64 0, .int .i64 0, .int .i64 0, .int .i64 0, .int .i64 0, .int .i64 0, .int .i64 0, .int .i64 0, .int .i64 0, .int .i64 0, .int .i64 0, .int .i64 0, .int .i64 0, .int .i64 0, .int .i64 0, .int .i64 0, .int .i64 0, .int .i64 0, .int .i64 0, .int .i64 0, .int .i64 0, .int .i64 0, .int .i64 0, .int .i64 0, .int .i64 0, .int .i64 0, .int .i64 0, .int .i64 0, .int .i64 0, .int .i64 0, .int .i64 0] := ⟨.agg #[.int .i64 0, .int .i64 0, .int .i64 0, .int .i64 0, .int .i64 0, .int .i64 0, .bool false, .bool false, .int .i64 0, .int .i64 0, .int .i64 0, .int .i64 0, .int .i64 0, .int .i64 0, .int .i64 0, .int .i64 0, .int .i64 0, .int .i64 0, .int .i64 0, .int .i64 0, .int .i64 0, .int .i64 0, .int .i64 0, .int .i64 0, .int .i64 0, .int .i64 0, .int .i64 0, .int .i64 0, .int .i64 0, .int .i64 0, .int .i64 0, .int .i64 0, .int .i64 0, .int .i64 0, .int .i64 0, .int .i64 0, .int .i64 0, .int .i64 0, .int .i64 0, .int .i64 0, .int .i64 0, .int .i64 0, .int .i64 0, .int .i64 0, .int .i64 0, .int .i64 0, .int .i64 0, .int .i64 0, .int .i64 0, .int .i64 0, .int .i64 0, .int .i64 0, .int .i64 0, .int .i64 0, .int .i64 0, .int .i64 0, .int .i64 0, .int .i64 0, .int .i64 0, .int .i64 0], by kernel_rfl, rfl⟩
instance : TOne Tryz.prog 36 := ⟨⟨_, Tryz.underlying36, rfl⟩, by kernel_rfl⟩
instance : TSl Tryz.prog 36 9 1 := ⟨Tryz.underlying36, by kernel_rfl⟩
instance : TEl Tryz.prog 36 1 24 (.slice none 0 0) := ⟨by kernel_rfl, rfl, by decide⟩
instance : TZero Tryz.prog 36 [.slice none 0 0] := ⟨.slice none 0 0, by kernel_rfl, rfl⟩
instance : TOne Tryz.prog 45 := ⟨⟨_, Tryz.underlying45, rfl⟩, by kernel_rfl⟩
instance : TPtr Tryz.prog 45 := ⟨⟨_, Tryz.underlying45⟩⟩
instance : TEl Tryz.prog 45 1 8 (.pointer none) := ⟨by kernel_rfl, rfl, by decide⟩
instance : TZero Tryz.prog 45 [.pointer none] := ⟨.pointer none, by kernel_rfl, rfl⟩
instance : TOne Tryz.prog 55 := ⟨⟨_, Tryz.underlying55, rfl⟩, by kernel_rfl⟩
instance : TPtr Tryz.prog 55 := ⟨⟨_, Tryz.underlying55⟩⟩
instance : TEl Tryz.prog 55 1 8 (.pointer none) := ⟨by kernel_rfl, rfl, by decide⟩
instance : TZero Tryz.prog 55 [.pointer none] := ⟨.pointer none, by kernel_rfl, rfl⟩
instance : TOne Tryz.prog 57 := ⟨⟨_, Tryz.underlying57, rfl⟩, by kernel_rfl⟩
instance : TPtr Tryz.prog 57 := ⟨⟨_, Tryz.underlying57⟩⟩
instance : TEl Tryz.prog 57 1 8 (.pointer none) := ⟨by kernel_rfl, rfl, by decide⟩
instance : TZero Tryz.prog 57 [.pointer none] := ⟨.pointer none, by kernel_rfl, rfl⟩
instance : TOne Tryz.prog 59 := ⟨⟨_, Tryz.underlying59, rfl⟩, by kernel_rfl⟩
instance : TPtr Tryz.prog 59 := ⟨⟨_, Tryz.underlying59⟩⟩
instance : TEl Tryz.prog 59 1 8 (.pointer none) := ⟨by kernel_rfl, rfl, by decide⟩
instance : TZero Tryz.prog 59 [.pointer none] := ⟨.pointer none, by kernel_rfl, rfl⟩
instance : TOne Tryz.prog 60 := ⟨⟨_, Tryz.underlying60, rfl⟩, by kernel_rfl⟩
instance : TSl Tryz.prog 60 59 1 := ⟨Tryz.underlying60, by kernel_rfl⟩
instance : TEl Tryz.prog 60 1 24 (.slice none 0 0) := ⟨by kernel_rfl, rfl, by decide⟩
instance : TZero Tryz.prog 60 [.slice none 0 0] := ⟨.slice none 0 0, by kernel_rfl, rfl⟩
instance : TOne Tryz.prog 62 := ⟨⟨_, Tryz.underlying62, rfl⟩, by kernel_rfl⟩
instance : TPtr Tryz.prog 62 := ⟨⟨_, Tryz.underlying62⟩⟩
instance : TEl Tryz.prog 62 1 8 (.pointer none) := ⟨by kernel_rfl, rfl, by decide⟩
instance : TZero Tryz.prog 62 [.pointer none] := ⟨.pointer none, by kernel_rfl, rfl⟩
instance : TOne Tryz.prog 63 := ⟨⟨_, Tryz.underlying63, rfl⟩, by kernel_rfl⟩
instance : TSl Tryz.prog 63 62 1 := ⟨Tryz.underlying63, by kernel_rfl⟩
instance : TEl Tryz.prog 63 1 24 (.slice none 0 0) := ⟨by kernel_rfl, rfl, by decide⟩
instance : TZero Tryz.prog 63 [.slice none 0 0] := ⟨.slice none 0 0, by kernel_rfl, rfl⟩
instance : TOne Tryz.prog 70 := ⟨⟨_, Tryz.underlying70, rfl⟩, by kernel_rfl⟩
instance : TSl Tryz.prog 70 3 1 := ⟨Tryz.underlying70, by kernel_rfl⟩
instance : TEl Tryz.prog 70 1 24 (.slice none 0 0) := ⟨by kernel_rfl, rfl, by decide⟩
instance : TZero Tryz.prog 70 [.slice none 0 0] := ⟨.slice none 0 0, by kernel_rfl, rfl⟩
instance : TRow Tryz.prog 74 3 := ⟨⟨_, Tryz.underlying74, rfl⟩, by kernel_rfl⟩
instance : TFld Tryz.prog 74 0 0 := ⟨_, _, 0, Tryz.underlying74, rfl, rfl, by kernel_rfl⟩
instance : TFld Tryz.prog 74 1 1 := ⟨_, _, 0, Tryz.underlying74, rfl, rfl, by kernel_rfl⟩
instance : TFld Tryz.prog 74 2 2 := ⟨_, _, 0, Tryz.underlying74, rfl, rfl, by kernel_rfl⟩
instance : TEl Tryz.prog 74 3 40 (.agg #[.slice none 0 0, .int .i64 0, .int .i64 0]) := ⟨by kernel_rfl, rfl, by decide⟩
instance : TZero Tryz.prog 74 [.slice none 0 0, .int .i64 0, .int .i64 0] := ⟨.agg #[.slice none 0 0, .int .i64 0, .int .i64 0], by kernel_rfl, rfl⟩
instance : TRow Tryz.prog 75 3 := ⟨⟨_, Tryz.underlying75, rfl⟩, by kernel_rfl⟩
instance : TFld Tryz.prog 75 0 0 := ⟨_, _, 0, Tryz.underlying75, rfl, rfl, by kernel_rfl⟩
instance : TFld Tryz.prog 75 1 1 := ⟨_, _, 0, Tryz.underlying75, rfl, rfl, by kernel_rfl⟩
instance : TFld Tryz.prog 75 2 2 := ⟨_, _, 0, Tryz.underlying75, rfl, rfl, by kernel_rfl⟩
instance : TEl Tryz.prog 75 3 40 (.agg #[.slice none 0 0, .int .i64 0, .int .i64 0]) := ⟨by kernel_rfl, rfl, by decide⟩
instance : TZero Tryz.prog 75 [.slice none 0 0, .int .i64 0, .int .i64 0] := ⟨.agg #[.slice none 0 0, .int .i64 0, .int .i64 0], by kernel_rfl, rfl⟩
instance : TOne Tryz.prog 81 := ⟨⟨_, Tryz.underlying81, rfl⟩, by kernel_rfl⟩
instance : TSl Tryz.prog 81 25 2 := ⟨Tryz.underlying81, by kernel_rfl⟩
instance : TEl Tryz.prog 81 1 24 (.slice none 0 0) := ⟨by kernel_rfl, rfl, by decide⟩
instance : TZero Tryz.prog 81 [.slice none 0 0] := ⟨.slice none 0 0, by kernel_rfl, rfl⟩
instance : TOne Tryz.prog 87 := ⟨⟨_, Tryz.underlying87, rfl⟩, by kernel_rfl⟩
instance : TEl Tryz.prog 87 1 8 (.int .u64 0) := ⟨by kernel_rfl, rfl, by decide⟩
instance : TZero Tryz.prog 87 [.int .u64 0] := ⟨.int .u64 0, by kernel_rfl, rfl⟩
instance : TOne Tryz.prog 88 := ⟨⟨_, Tryz.underlying88, rfl⟩, by kernel_rfl⟩
instance : TEl Tryz.prog 88 1 8 (.int .i64 0) := ⟨by kernel_rfl, rfl, by decide⟩
instance : TZero Tryz.prog 88 [.int .i64 0] := ⟨.int .i64 0, by kernel_rfl, rfl⟩
instance : TOne Tryz.prog 91 := ⟨⟨_, Tryz.underlying91, rfl⟩, by kernel_rfl⟩
instance : TPtr Tryz.prog 91 := ⟨⟨_, Tryz.underlying91⟩⟩
instance : TEl Tryz.prog 91 1 8 (.pointer none) := ⟨by kernel_rfl, rfl, by decide⟩
instance : TZero Tryz.prog 91 [.pointer none] := ⟨.pointer none, by kernel_rfl, rfl⟩
instance : TOne Tryz.prog 97 := ⟨⟨_, Tryz.underlying97, rfl⟩, by kernel_rfl⟩
instance : TEl Tryz.prog 97 1 8 (.int .u64 0) := ⟨by kernel_rfl, rfl, by decide⟩
instance : TZero Tryz.prog 97 [.int .u64 0] := ⟨.int .u64 0, by kernel_rfl, rfl⟩
instance : TRow Tryz.prog 101 3 := ⟨⟨_, Tryz.underlying101, rfl⟩, by kernel_rfl⟩
instance : TFld Tryz.prog 101 0 0 := ⟨_, _, 0, Tryz.underlying101, rfl, rfl, by kernel_rfl⟩
instance : TFld Tryz.prog 101 1 1 := ⟨_, _, 0, Tryz.underlying101, rfl, rfl, by kernel_rfl⟩
instance : TFld Tryz.prog 101 2 2 := ⟨_, _, 0, Tryz.underlying101, rfl, rfl, by kernel_rfl⟩
instance : TRow Tryz.prog 102 3 := ⟨⟨_, Tryz.underlying102, rfl⟩, by kernel_rfl⟩
instance : TFld Tryz.prog 102 0 0 := ⟨_, _, 0, Tryz.underlying102, rfl, rfl, by kernel_rfl⟩
instance : TFld Tryz.prog 102 1 1 := ⟨_, _, 0, Tryz.underlying102, rfl, rfl, by kernel_rfl⟩
instance : TFld Tryz.prog 102 2 2 := ⟨_, _, 0, Tryz.underlying102, rfl, rfl, by kernel_rfl⟩
instance : TRow Tryz.prog 108 24 := ⟨⟨_, Tryz.underlying108, rfl⟩, by kernel_rfl⟩
instance : TEl Tryz.prog 108 24 24 (.agg #[.int .u8 0, .int .u8 0, .int .u8 0, .int .u8 0, .int .u8 0, .int .u8 0, .int .u8 0, .int .u8 0, .int .u8 0, .int .u8 0, .int .u8 0, .int .u8 0, .int .u8 0, .int .u8 0, .int .u8 0, .int .u8 0, .int .u8 0, .int .u8 0, .int .u8 0, .int .u8 0, .int .u8 0, .int .u8 0, .int .u8 0, .int .u8 0]) := ⟨by kernel_rfl, rfl, by decide⟩
instance : TZero Tryz.prog 108 [.int .u8 0, .int .u8 0, .int .u8 0, .int .u8 0, .int .u8 0, .int .u8 0, .int .u8 0, .int .u8 0, .int .u8 0, .int .u8 0, .int .u8 0, .int .u8 0, .int .u8 0, .int .u8 0, .int .u8 0, .int .u8 0, .int .u8 0, .int .u8 0, .int .u8 0, .int .u8 0, .int .u8 0, .int .u8 0, .int .u8 0, .int .u8 0] := ⟨.agg #[.int .u8 0, .int .u8 0, .int .u8 0, .int .u8 0, .int .u8 0, .int .u8 0, .int .u8 0, .int .u8 0, .int .u8 0, .int .u8 0, .int .u8 0, .int .u8 0, .int .u8 0, .int .u8 0, .int .u8 0, .int .u8 0, .int .u8 0, .int .u8 0, .int .u8 0, .int .u8 0, .int .u8 0, .int .u8 0, .int .u8 0, .int .u8 0], by kernel_rfl, rfl⟩
instance : TOne Tryz.prog 115 := ⟨⟨_, Tryz.underlying115, rfl⟩, by kernel_rfl⟩
instance : TPtr Tryz.prog 115 := ⟨⟨_, Tryz.underlying115⟩⟩
instance : TEl Tryz.prog 115 1 8 (.pointer none) := ⟨by kernel_rfl, rfl, by decide⟩
instance : TZero Tryz.prog 115 [.pointer none] := ⟨.pointer none, by kernel_rfl, rfl⟩
instance : TOne Tryz.prog 116 := ⟨⟨_, Tryz.underlying116, rfl⟩, by kernel_rfl⟩
instance : TPtr Tryz.prog 116 := ⟨⟨_, Tryz.underlying116⟩⟩
instance : TEl Tryz.prog 116 1 8 (.pointer none) := ⟨by kernel_rfl, rfl, by decide⟩
instance : TZero Tryz.prog 116 [.pointer none] := ⟨.pointer none, by kernel_rfl, rfl⟩
instance : TRow Tryz.prog 117 1 := ⟨⟨_, Tryz.underlying117, rfl⟩, by kernel_rfl⟩
instance : TFld Tryz.prog 117 0 0 := ⟨_, _, 0, Tryz.underlying117, rfl, rfl, by kernel_rfl⟩
instance : TEq Tryz.prog 117 [2] := ⟨by kernel_rfl, by kernel_rfl, _, Tryz.underlying117⟩
instance : TEl Tryz.prog 117 1 16 (.agg #[.string ⟨#[]⟩]) := ⟨by kernel_rfl, rfl, by decide⟩
instance : TZero Tryz.prog 117 [.string ⟨#[]⟩] := ⟨.agg #[.string ⟨#[]⟩], by kernel_rfl, rfl⟩
instance : TRow Tryz.prog 118 1 := ⟨⟨_, Tryz.underlying118, rfl⟩, by kernel_rfl⟩
instance : TFld Tryz.prog 118 0 0 := ⟨_, _, 0, Tryz.underlying118, rfl, rfl, by kernel_rfl⟩
instance : TEq Tryz.prog 118 [2] := ⟨by kernel_rfl, by kernel_rfl, _, Tryz.underlying118⟩
instance : TEl Tryz.prog 118 1 16 (.agg #[.string ⟨#[]⟩]) := ⟨by kernel_rfl, rfl, by decide⟩
instance : TZero Tryz.prog 118 [.string ⟨#[]⟩] := ⟨.agg #[.string ⟨#[]⟩], by kernel_rfl, rfl⟩
instance : TRow Tryz.prog 121 20 := ⟨⟨_, Tryz.underlying121, rfl⟩, by kernel_rfl⟩
instance : TEl Tryz.prog 121 20 160 (.agg #[.int .u64 0, .int .u64 0, .int .u64 0, .int .u64 0, .int .u64 0, .int .u64 0, .int .u64 0, .int .u64 0, .int .u64 0, .int .u64 0, .int .u64 0, .int .u64 0, .int .u64 0, .int .u64 0, .int .u64 0, .int .u64 0, .int .u64 0, .int .u64 0, .int .u64 0, .int .u64 0]) := ⟨by kernel_rfl, rfl, by decide⟩
instance : TZero Tryz.prog 121 [.int .u64 0, .int .u64 0, .int .u64 0, .int .u64 0, .int .u64 0, .int .u64 0, .int .u64 0, .int .u64 0, .int .u64 0, .int .u64 0, .int .u64 0, .int .u64 0, .int .u64 0, .int .u64 0, .int .u64 0, .int .u64 0, .int .u64 0, .int .u64 0, .int .u64 0, .int .u64 0] := ⟨.agg #[.int .u64 0, .int .u64 0, .int .u64 0, .int .u64 0, .int .u64 0, .int .u64 0, .int .u64 0, .int .u64 0, .int .u64 0, .int .u64 0, .int .u64 0, .int .u64 0, .int .u64 0, .int .u64 0, .int .u64 0, .int .u64 0, .int .u64 0, .int .u64 0, .int .u64 0, .int .u64 0], by kernel_rfl, rfl⟩
instance : TOne Tryz.prog 122 := ⟨⟨_, Tryz.underlying122, rfl⟩, by kernel_rfl⟩
instance : TEl Tryz.prog 122 1 4 (.int .u32 0) := ⟨by kernel_rfl, rfl, by decide⟩
instance : TZero Tryz.prog 122 [.int .u32 0] := ⟨.int .u32 0, by kernel_rfl, rfl⟩
instance : TRow Tryz.prog 123 65 := ⟨⟨_, Tryz.underlying123, rfl⟩, by kernel_rfl⟩
instance : TEl Tryz.prog 123 65 65 (.agg #[.int .u8 0, .int .u8 0, .int .u8 0, .int .u8 0, .int .u8 0, .int .u8 0, .int .u8 0, .int .u8 0, .int .u8 0, .int .u8 0, .int .u8 0, .int .u8 0, .int .u8 0, .int .u8 0, .int .u8 0, .int .u8 0, .int .u8 0, .int .u8 0, .int .u8 0, .int .u8 0, .int .u8 0, .int .u8 0, .int .u8 0, .int .u8 0, .int .u8 0, .int .u8 0, .int .u8 0, .int .u8 0, .int .u8 0, .int .u8 0, .int .u8 0, .int .u8 0, .int .u8 0, .int .u8 0, .int .u8 0, .int .u8 0, .int .u8 0, .int .u8 0, .int .u8 0, .int .u8 0, .int .u8 0, .int .u8 0, .int .u8 0, .int .u8 0, .int .u8 0, .int .u8 0, .int .u8 0, .int .u8 0, .int .u8 0, .int .u8 0, .int .u8 0, .int .u8 0, .int .u8 0, .int .u8 0, .int .u8 0, .int .u8 0, .int .u8 0, .int .u8 0, .int .u8 0, .int .u8 0, .int .u8 0, .int .u8 0, .int .u8 0, .int .u8 0, .int .u8 0]) := ⟨by kernel_rfl, rfl, by decide⟩
instance : TZero Tryz.prog 123 [.int .u8 0, .int .u8 0, .int .u8 0, .int .u8 0, .int .u8 0, .int .u8 0, .int .u8 0, .int .u8 0, .int .u8 0, .int .u8 0, .int .u8 0, .int .u8 0, .int .u8 0, .int .u8 0, .int .u8 0, .int .u8 0, .int .u8 0, .int .u8 0, .int .u8 0, .int .u8 0, .int .u8 0, .int .u8 0, .int .u8 0, .int .u8 0, .int .u8 0, .int .u8 0, .int .u8 0, .int .u8 0, .int .u8 0, .int .u8 0, .int .u8 0, .int .u8 0, .int .u8 0, .int .u8 0, .int .u8 0, .int .u8 0, .int .u8 0, .int .u8 0, .int .u8 0, .int .u8 0, .int .u8 0, .int .u8 0, .int .u8 0, .int .u8 0, .int .u8 0, .int .u8 0, .int .u8 0, .int .u8 0, .int .u8 0, .int .u8 0, .int .u8 0, .int .u8 0, .int .u8 0, .int .u8 0, .int .u8 0, .int .u8 0, .int .u8 0, .int .u8 0, .int .u8 0, .int .u8 0, .int .u8 0, .int .u8 0, .int .u8 0, .int .u8 0, .int .u8 0] := ⟨.agg #[.int .u8 0, .int .u8 0, .int .u8 0, .int .u8 0, .int .u8 0, .int .u8 0, .int .u8 0, .int .u8 0, .int .u8 0, .int .u8 0, .int .u8 0, .int .u8 0, .int .u8 0, .int .u8 0, .int .u8 0, .int .u8 0, .int .u8 0, .int .u8 0, .int .u8 0, .int .u8 0, .int .u8 0, .int .u8 0, .int .u8 0, .int .u8 0, .int .u8 0, .int .u8 0, .int .u8 0, .int .u8 0, .int .u8 0, .int .u8 0, .int .u8 0, .int .u8 0, .int .u8 0, .int .u8 0, .int .u8 0, .int .u8 0, .int .u8 0, .int .u8 0, .int .u8 0, .int .u8 0, .int .u8 0, .int .u8 0, .int .u8 0, .int .u8 0, .int .u8 0, .int .u8 0, .int .u8 0, .int .u8 0, .int .u8 0, .int .u8 0, .int .u8 0, .int .u8 0, .int .u8 0, .int .u8 0, .int .u8 0, .int .u8 0, .int .u8 0, .int .u8 0, .int .u8 0, .int .u8 0, .int .u8 0, .int .u8 0, .int .u8 0, .int .u8 0, .int .u8 0], by kernel_rfl, rfl⟩
instance : TRow Tryz.prog 127 2 := ⟨⟨_, Tryz.underlying127, rfl⟩, by kernel_rfl⟩
instance : TFld Tryz.prog 127 0 0 := ⟨_, _, 0, Tryz.underlying127, rfl, rfl, by kernel_rfl⟩
instance : TFld Tryz.prog 127 1 1 := ⟨_, _, 0, Tryz.underlying127, rfl, rfl, by kernel_rfl⟩
instance : TEl Tryz.prog 127 2 2 (.agg #[.int .u8 0, .int .u8 0]) := ⟨by kernel_rfl, rfl, by decide⟩
instance : TZero Tryz.prog 127 [.int .u8 0, .int .u8 0] := ⟨.agg #[.int .u8 0, .int .u8 0], by kernel_rfl, rfl⟩
instance : TRow Tryz.prog 128 2 := ⟨⟨_, Tryz.underlying128, rfl⟩, by kernel_rfl⟩
instance : TFld Tryz.prog 128 0 0 := ⟨_, _, 0, Tryz.underlying128, rfl, rfl, by kernel_rfl⟩
instance : TFld Tryz.prog 128 1 1 := ⟨_, _, 0, Tryz.underlying128, rfl, rfl, by kernel_rfl⟩
instance : TEl Tryz.prog 128 2 2 (.agg #[.int .u8 0, .int .u8 0]) := ⟨by kernel_rfl, rfl, by decide⟩
instance : TZero Tryz.prog 128 [.int .u8 0, .int .u8 0] := ⟨.agg #[.int .u8 0, .int .u8 0], by kernel_rfl, rfl⟩
instance : TRow Tryz.prog 129 32 := ⟨⟨_, Tryz.underlying129, rfl⟩, by kernel_rfl⟩
instance : TEl Tryz.prog 129 32 32 (.agg #[.int .u8 0, .int .u8 0, .int .u8 0, .int .u8 0, .int .u8 0, .int .u8 0, .int .u8 0, .int .u8 0, .int .u8 0, .int .u8 0, .int .u8 0, .int .u8 0, .int .u8 0, .int .u8 0, .int .u8 0, .int .u8 0, .int .u8 0, .int .u8 0, .int .u8 0, .int .u8 0, .int .u8 0, .int .u8 0, .int .u8 0, .int .u8 0, .int .u8 0, .int .u8 0, .int .u8 0, .int .u8 0, .int .u8 0, .int .u8 0, .int .u8 0, .int .u8 0]) := ⟨by kernel_rfl, rfl, by decide⟩
instance : TZero Tryz.prog 129 [.int .u8 0, .int .u8 0, .int .u8 0, .int .u8 0, .int .u8 0, .int .u8 0, .int .u8 0, .int .u8 0, .int .u8 0, .int .u8 0, .int .u8 0, .int .u8 0, .int .u8 0, .int .u8 0, .int .u8 0, .int .u8 0, .int .u8 0, .int .u8 0, .int .u8 0, .int .u8 0, .int .u8 0, .int .u8 0, .int .u8 0, .int .u8 0, .int .u8 0, .int .u8 0, .int .u8 0, .int .u8 0, .int .u8 0, .int .u8 0, .int .u8 0, .int .u8 0] := ⟨.agg #[.int .u8 0, .int .u8 0, .int .u8 0, .int .u8 0, .int .u8 0, .int .u8 0, .int .u8 0, .int .u8 0, .int .u8 0, .int .u8 0, .int .u8 0, .int .u8 0, .int .u8 0, .int .u8 0, .int .u8 0, .int .u8 0, .int .u8 0, .int .u8 0, .int .u8 0, .int .u8 0, .int .u8 0, .int .u8 0, .int .u8 0, .int .u8 0, .int .u8 0, .int .u8 0, .int .u8 0, .int .u8 0, .int .u8 0, .int .u8 0, .int .u8 0, .int .u8 0], by kernel_rfl, rfl⟩
instance : TRow Tryz.prog 133 32 := ⟨⟨_, Tryz.underlying133, rfl⟩, by kernel_rfl⟩
instance : TEl Tryz.prog 133 32 32 (.agg #[.int .u8 0, .int .u8 0, .int .u8 0, .int .u8 0, .int .u8 0, .int .u8 0, .int .u8 0, .int .u8 0, .int .u8 0, .int .u8 0, .int .u8 0, .int .u8 0, .int .u8 0, .int .u8 0, .int .u8 0, .int .u8 0, .int .u8 0, .int .u8 0, .int .u8 0, .int .u8 0, .int .u8 0, .int .u8 0, .int .u8 0, .int .u8 0, .int .u8 0, .int .u8 0, .int .u8 0, .int .u8 0, .int .u8 0, .int .u8 0, .int .u8 0, .int .u8 0]) := ⟨by kernel_rfl, rfl, by decide⟩
instance : TZero Tryz.prog 133 [.int .u8 0, .int .u8 0, .int .u8 0, .int .u8 0, .int .u8 0, .int .u8 0, .int .u8 0, .int .u8 0, .int .u8 0, .int .u8 0, .int .u8 0, .int .u8 0, .int .u8 0, .int .u8 0, .int .u8 0, .int .u8 0, .int .u8 0, .int .u8 0, .int .u8 0, .int .u8 0, .int .u8 0, .int .u8 0, .int .u8 0, .int .u8 0, .int .u8 0, .int .u8 0, .int .u8 0, .int .u8 0, .int .u8 0, .int .u8 0, .int .u8 0, .int .u8 0] := ⟨.agg #[.int .u8 0, .int .u8 0, .int .u8 0, .int .u8 0, .int .u8 0, .int .u8 0, .int .u8 0, .int .u8 0, .int .u8 0, .int .u8 0, .int .u8 0, .int .u8 0, .int .u8 0, .int .u8 0, .int .u8 0, .int .u8 0, .int .u8 0, .int .u8 0, .int .u8 0, .int .u8 0, .int .u8 0, .int .u8 0, .int .u8 0, .int .u8 0, .int .u8 0, .int .u8 0, .int .u8 0, .int .u8 0, .int .u8 0, .int .u8 0, .int .u8 0, .int .u8 0], by kernel_rfl, rfl⟩
instance : TRow Tryz.prog 134 64 := ⟨⟨_, Tryz.underlying134, rfl⟩, by kernel_rfl⟩
instance : TEl Tryz.prog 134 64 64 (.agg #[.int .u8 0, .int .u8 0, .int .u8 0, .int .u8 0, .int .u8 0, .int .u8 0, .int .u8 0, .int .u8 0, .int .u8 0, .int .u8 0, .int .u8 0, .int .u8 0, .int .u8 0, .int .u8 0, .int .u8 0, .int .u8 0, .int .u8 0, .int .u8 0, .int .u8 0, .int .u8 0, .int .u8 0, .int .u8 0, .int .u8 0, .int .u8 0, .int .u8 0, .int .u8 0, .int .u8 0, .int .u8 0, .int .u8 0, .int .u8 0, .int .u8 0, .int .u8 0, .int .u8 0, .int .u8 0, .int .u8 0, .int .u8 0, .int .u8 0, .int .u8 0, .int .u8 0, .int .u8 0, .int .u8 0, .int .u8 0, .int .u8 0, .int .u8 0, .int .u8 0, .int .u8 0, .int .u8 0, .int .u8 0, .int .u8 0, .int .u8 0, .int .u8 0, .int .u8 0, .int .u8 0, .int .u8 0, .int .u8 0, .int .u8 0, .int .u8 0, .int .u8 0, .int .u8 0, .int .u8 0, .int .u8 0, .int .u8 0, .int .u8 0, .int .u8 0]) := ⟨by kernel_rfl, rfl, by decide⟩
instance : TZero Tryz.prog 134 [.int .u8 0, .int .u8 0, .int .u8 0, .int .u8 0, .int .u8 0, .int .u8 0, .int .u8 0, .int .u8 0, .int .u8 0, .int .u8 0, .int .u8 0, .int .u8 0, .int .u8 0, .int .u8 0, .int .u8 0, .int .u8 0, .int .u8 0, .int .u8 0, .int .u8 0, .int .u8 0, .int .u8 0, .int .u8 0, .int .u8 0, .int .u8 0, .int .u8 0, .int .u8 0, .int .u8 0, .int .u8 0, .int .u8 0, .int .u8 0, .int .u8 0, .int .u8 0, .int .u8 0, .int .u8 0, .int .u8 0, .int .u8 0, .int .u8 0, .int .u8 0, .int .u8 0, .int .u8 0, .int .u8 0, .int .u8 0, .int .u8 0, .int .u8 0, .int .u8 0, .int .u8 0, .int .u8 0, .int .u8 0, .int .u8 0, .int .u8 0, .int .u8 0, .int .u8 0, .int .u8 0, .int .u8 0, .int .u8 0, .int .u8 0, .int .u8 0, .int .u8 0, .int .u8 0, .int .u8 0, .int .u8 0, .int .u8 0, .int .u8 0, .int .u8 0] := ⟨.agg #[.int .u8 0, .int .u8 0, .int .u8 0, .int .u8 0, .int .u8 0, .int .u8 0, .int .u8 0, .int .u8 0, .int .u8 0, .int .u8 0, .int .u8 0, .int .u8 0, .int .u8 0, .int .u8 0, .int .u8 0, .int .u8 0, .int .u8 0, .int .u8 0, .int .u8 0, .int .u8 0, .int .u8 0, .int .u8 0, .int .u8 0, .int .u8 0, .int .u8 0, .int .u8 0, .int .u8 0, .int .u8 0, .int .u8 0, .int .u8 0, .int .u8 0, .int .u8 0, .int .u8 0, .int .u8 0, .int .u8 0, .int .u8 0, .int .u8 0, .int .u8 0, .int .u8 0, .int .u8 0, .int .u8 0, .int .u8 0, .int .u8 0, .int .u8 0, .int .u8 0, .int .u8 0, .int .u8 0, .int .u8 0, .int .u8 0, .int .u8 0, .int .u8 0, .int .u8 0, .int .u8 0, .int .u8 0, .int .u8 0, .int .u8 0, .int .u8 0, .int .u8 0, .int .u8 0, .int .u8 0, .int .u8 0, .int .u8 0, .int .u8 0, .int .u8 0], by kernel_rfl, rfl⟩
instance : TRow Tryz.prog 136 4 := ⟨⟨_, Tryz.underlying136, rfl⟩, by kernel_rfl⟩
instance : TFld Tryz.prog 136 0 0 := ⟨_, _, 0, Tryz.underlying136, rfl, rfl, by kernel_rfl⟩
instance : TFld Tryz.prog 136 1 1 := ⟨_, _, 0, Tryz.underlying136, rfl, rfl, by kernel_rfl⟩
instance : TFld Tryz.prog 136 2 2 := ⟨_, _, 0, Tryz.underlying136, rfl, rfl, by kernel_rfl⟩
instance : TFld Tryz.prog 136 3 3 := ⟨_, _, 0, Tryz.underlying136, rfl, rfl, by kernel_rfl⟩
instance : TEl Tryz.prog 136 4 40 (.agg #[.pointer none, .pointer none, .pointer none, .string ⟨#[]⟩]) := ⟨by kernel_rfl, rfl, by decide⟩
instance : TZero Tryz.prog 136 [.pointer none, .pointer none, .pointer none, .string ⟨#[]⟩] := ⟨.agg #[.pointer none, .pointer none, .pointer none, .string ⟨#[]⟩], by kernel_rfl, rfl⟩
instance : TRow Tryz.prog 137 4 := ⟨⟨_, Tryz.underlying137, rfl⟩, by kernel_rfl⟩
instance : TFld Tryz.prog 137 0 0 := ⟨_, _, 0, Tryz.underlying137, rfl, rfl, by kernel_rfl⟩
instance : TFld Tryz.prog 137 1 1 := ⟨_, _, 0, Tryz.underlying137, rfl, rfl, by kernel_rfl⟩
instance : TFld Tryz.prog 137 2 2 := ⟨_, _, 0, Tryz.underlying137, rfl, rfl, by kernel_rfl⟩
instance : TFld Tryz.prog 137 3 3 := ⟨_, _, 0, Tryz.underlying137, rfl, rfl, by kernel_rfl⟩
instance : TEl Tryz.prog 137 4 40 (.agg #[.pointer none, .pointer none, .pointer none, .string ⟨#[]⟩]) := ⟨by kernel_rfl, rfl, by decide⟩
instance : TZero Tryz.prog 137 [.pointer none, .pointer none, .pointer none, .string ⟨#[]⟩] := ⟨.agg #[.pointer none, .pointer none, .pointer none, .string ⟨#[]⟩], by kernel_rfl, rfl⟩
instance : TOne Tryz.prog 142 := ⟨⟨_, Tryz.underlying142, rfl⟩, by kernel_rfl⟩
instance : TEl Tryz.prog 142 1 1 (.int .u8 0) := ⟨by kernel_rfl, rfl, by decide⟩
instance : TZero Tryz.prog 142 [.int .u8 0] := ⟨.int .u8 0, by kernel_rfl, rfl⟩
instance : TOne Tryz.prog 143 := ⟨⟨_, Tryz.underlying143, rfl⟩, by kernel_rfl⟩
instance : TEl Tryz.prog 143 1 1 (.int .u8 0) := ⟨by kernel_rfl, rfl, by decide⟩
instance : TZero Tryz.prog 143 [.int .u8 0] := ⟨.int .u8 0, by kernel_rfl, rfl⟩
instance : TOne Tryz.prog 145 := ⟨⟨_, Tryz.underlying145, rfl⟩, by kernel_rfl⟩
instance : TEl Tryz.prog 145 1 4 (.int .i32 0) := ⟨by kernel_rfl, rfl, by decide⟩
instance : TZero Tryz.prog 145 [.int .i32 0] := ⟨.int .i32 0, by kernel_rfl, rfl⟩
instance : TOne Tryz.prog 146 := ⟨⟨_, Tryz.underlying146, rfl⟩, by kernel_rfl⟩
instance : TEl Tryz.prog 146 1 4 (.int .i32 0) := ⟨by kernel_rfl, rfl, by decide⟩
instance : TZero Tryz.prog 146 [.int .i32 0] := ⟨.int .i32 0, by kernel_rfl, rfl⟩
instance : TRow Tryz.prog 147 11 := ⟨⟨_, Tryz.underlying147, rfl⟩, by kernel_rfl⟩
instance : TFld Tryz.prog 147 0 0 := ⟨_, _, 0, Tryz.underlying147, rfl, rfl, by kernel_rfl⟩
instance : TFld Tryz.prog 147 1 1 := ⟨_, _, 0, Tryz.underlying147, rfl, rfl, by kernel_rfl⟩
instance : TFld Tryz.prog 147 2 2 := ⟨_, _, 0, Tryz.underlying147, rfl, rfl, by kernel_rfl⟩
instance : TFld Tryz.prog 147 3 3 := ⟨_, _, 0, Tryz.underlying147, rfl, rfl, by kernel_rfl⟩
instance : TFld Tryz.prog 147 4 4 := ⟨_, _, 0, Tryz.underlying147, rfl, rfl, by kernel_rfl⟩
instance : TFld Tryz.prog 147 5 5 := ⟨_, _, 0, Tryz.underlying147, rfl, rfl, by kernel_rfl⟩
instance : TFld Tryz.prog 147 6 6 := ⟨_, _, 0, Tryz.underlying147, rfl, rfl, by kernel_rfl⟩
instance : TFld Tryz.prog 147 7 7 := ⟨_, _, 0, Tryz.underlying147, rfl, rfl, by kernel_rfl⟩
instance : TFld Tryz.prog 147 8 8 := ⟨_, _, 0, Tryz.underlying147, rfl, rfl, by kernel_rfl⟩
instance : TFld Tryz.prog 147 9 9 := ⟨_, _, 0, Tryz.underlying147, rfl, rfl, by kernel_rfl⟩
instance : TFld Tryz.prog 147 10 10 := ⟨_, _, 0, Tryz.underlying147, rfl, rfl, by kernel_rfl⟩
instance : TRow Tryz.prog 148 11 := ⟨⟨_, Tryz.underlying148, rfl⟩, by kernel_rfl⟩
instance : TFld Tryz.prog 148 0 0 := ⟨_, _, 0, Tryz.underlying148, rfl, rfl, by kernel_rfl⟩
instance : TFld Tryz.prog 148 1 1 := ⟨_, _, 0, Tryz.underlying148, rfl, rfl, by kernel_rfl⟩
instance : TFld Tryz.prog 148 2 2 := ⟨_, _, 0, Tryz.underlying148, rfl, rfl, by kernel_rfl⟩
instance : TFld Tryz.prog 148 3 3 := ⟨_, _, 0, Tryz.underlying148, rfl, rfl, by kernel_rfl⟩
instance : TFld Tryz.prog 148 4 4 := ⟨_, _, 0, Tryz.underlying148, rfl, rfl, by kernel_rfl⟩
instance : TFld Tryz.prog 148 5 5 := ⟨_, _, 0, Tryz.underlying148, rfl, rfl, by kernel_rfl⟩
instance : TFld Tryz.prog 148 6 6 := ⟨_, _, 0, Tryz.underlying148, rfl, rfl, by kernel_rfl⟩
instance : TFld Tryz.prog 148 7 7 := ⟨_, _, 0, Tryz.underlying148, rfl, rfl, by kernel_rfl⟩
instance : TFld Tryz.prog 148 8 8 := ⟨_, _, 0, Tryz.underlying148, rfl, rfl, by kernel_rfl⟩
instance : TFld Tryz.prog 148 9 9 := ⟨_, _, 0, Tryz.underlying148, rfl, rfl, by kernel_rfl⟩
instance : TFld Tryz.prog 148 10 10 := ⟨_, _, 0, Tryz.underlying148, rfl, rfl, by kernel_rfl⟩
instance : TFun Tryz.prog 3 := ⟨_, Tryz.func3, by kernel_rfl, by kernel_rfl⟩
instance : TFun Tryz.prog 4 := ⟨_, Tryz.func4, by kernel_rfl, by kernel_rfl⟩
instance : TFun Tryz.prog 5 := ⟨_, Tryz.func5, by kernel_rfl, by kernel_rfl⟩
instance : TFun Tryz.prog 6 := ⟨_, Tryz.func6, by kernel_rfl, by kernel_rfl⟩
instance : TFun Tryz.prog 7 := ⟨_, Tryz.func7, by kernel_rfl, by kernel_rfl⟩
instance : TFun Tryz.prog 8 := ⟨_, Tryz.func8, by kernel_rfl, by kernel_rfl⟩
instance : TFun Tryz.prog 9 := ⟨_, Tryz.func9, by kernel_rfl, by kernel_rfl⟩
instance : TFun Tryz.prog 10 := ⟨_, Tryz.func10, by kernel_rfl, by kernel_rfl⟩
instance : TFun Tryz.prog 11 := ⟨_, Tryz.func11, by kernel_rfl, by kernel_rfl⟩
instance : TFun Tryz.prog 12 := ⟨_, Tryz.func12, by kernel_rfl, by kernel_rfl⟩
instance : TFun Tryz.prog 13 := ⟨_, Tryz.func13, by kernel_rfl, by kernel_rfl⟩
instance : TFun Tryz.prog 14 := ⟨_, Tryz.func14, by kernel_rfl, by kernel_rfl⟩
instance : TFun Tryz.prog 15 := ⟨_, Tryz.func15, by kernel_rfl, by kernel_rfl⟩
instance : TFun Tryz.prog 16 := ⟨_, Tryz.func16, by kernel_rfl, by kernel_rfl⟩
instance : TFun Tryz.prog 17 := ⟨_, Tryz.func17, by kernel_rfl, by kernel_rfl⟩
instance : TFun Tryz.prog 18 := ⟨_, Tryz.func18, by kernel_rfl, by kernel_rfl⟩
instance : TFun Tryz.prog 19 := ⟨_, Tryz.func19, by kernel_rfl, by kernel_rfl⟩
instance : TFun Tryz.prog 20 := ⟨_, Tryz.func20, by kernel_rfl, by kernel_rfl⟩
instance : TFun Tryz.prog 23 := ⟨_, Tryz.func23, by kernel_rfl, by kernel_rfl⟩
instance : TFun Tryz.prog 24 := ⟨_, Tryz.func24, by kernel_rfl, by kernel_rfl⟩
instance : TFun Tryz.prog 25 := ⟨_, Tryz.func25, by kernel_rfl, by kernel_rfl⟩
instance : TFun Tryz.prog 26 := ⟨_, Tryz.func26, by kernel_rfl, by kernel_rfl⟩
instance : TFun Tryz.prog 27 := ⟨_, Tryz.func27, by kernel_rfl, by kernel_rfl⟩
instance : TFun Tryz.prog 28 := ⟨_, Tryz.func28, by kernel_rfl, by kernel_rfl⟩
instance : TFun Tryz.prog 29 := ⟨_, Tryz.func29, by kernel_rfl, by kernel_rfl⟩
instance : TFun Tryz.prog 30 := ⟨_, Tryz.func30, by kernel_rfl, by kernel_rfl⟩
instance : TFun Tryz.prog 31 := ⟨_, Tryz.func31, by kernel_rfl, by kernel_rfl⟩
instance : TFun Tryz.prog 32 := ⟨_, Tryz.func32, by kernel_rfl, by kernel_rfl⟩
instance : TFun Tryz.prog 33 := ⟨_, Tryz.func33, by kernel_rfl, by kernel_rfl⟩
instance : TFun Tryz.prog 34 := ⟨_, Tryz.func34, by kernel_rfl, by kernel_rfl⟩
instance : TFun Tryz.prog 35 := ⟨_, Tryz.func35, by kernel_rfl, by kernel_rfl⟩
instance : TFun Tryz.prog 36 := ⟨_, Tryz.func36, by kernel_rfl, by kernel_rfl⟩
instance : TFun Tryz.prog 37 := ⟨_, Tryz.func37, by kernel_rfl, by kernel_rfl⟩
instance : TFun Tryz.prog 38 := ⟨_, Tryz.func38, by kernel_rfl, by kernel_rfl⟩
instance : TFun Tryz.prog 39 := ⟨_, Tryz.func39, by kernel_rfl, by kernel_rfl⟩
instance : TFun Tryz.prog 40 := ⟨_, Tryz.func40, by kernel_rfl, by kernel_rfl⟩
instance : TFun Tryz.prog 41 := ⟨_, Tryz.func41, by kernel_rfl, by kernel_rfl⟩
instance : TFun Tryz.prog 42 := ⟨_, Tryz.func42, by kernel_rfl, by kernel_rfl⟩
instance : TFun Tryz.prog 43 := ⟨_, Tryz.func43, by kernel_rfl, by kernel_rfl⟩
instance : TFun Tryz.prog 44 := ⟨_, Tryz.func44, by kernel_rfl, by kernel_rfl⟩
instance : TFun Tryz.prog 50 := ⟨_, Tryz.func50, by kernel_rfl, by kernel_rfl⟩
instance : TFun Tryz.prog 51 := ⟨_, Tryz.func51, by kernel_rfl, by kernel_rfl⟩
instance : TFun Tryz.prog 52 := ⟨_, Tryz.func52, by kernel_rfl, by kernel_rfl⟩
instance : TFun Tryz.prog 53 := ⟨_, Tryz.func53, by kernel_rfl, by kernel_rfl⟩
instance : TFun Tryz.prog 54 := ⟨_, Tryz.func54, by kernel_rfl, by kernel_rfl⟩
instance : TFun Tryz.prog 55 := ⟨_, Tryz.func55, by kernel_rfl, by kernel_rfl⟩
instance : TFun Tryz.prog 56 := ⟨_, Tryz.func56, by kernel_rfl, by kernel_rfl⟩
instance : TFun Tryz.prog 57 := ⟨_, Tryz.func57, by kernel_rfl, by kernel_rfl⟩
instance : TFun Tryz.prog 58 := ⟨_, Tryz.func58, by kernel_rfl, by kernel_rfl⟩
instance : TFun Tryz.prog 59 := ⟨_, Tryz.func59, by kernel_rfl, by kernel_rfl⟩
instance : TFun Tryz.prog 60 := ⟨_, Tryz.func60, by kernel_rfl, by kernel_rfl⟩
instance : TFun Tryz.prog 67 := ⟨_, Tryz.func67, by kernel_rfl, by kernel_rfl⟩

end Go.Proofs.YthffgbhphjkdeaaGreatDoor
namespace Go.Proofs.YthffgbhphjkdeaaGreatDoor
open Go.RowKit

set_option maxRecDepth 100000 in
theorem l01Byte_any (B g : Nat) (w : World) (hc : Cur B 75 w g) :
    Calls Tryz.prog 60 #[.pointer (some ⟨g, 0, none⟩)] w (Drew B 75 g w fun x => 0 ≤ x ∧ x ≤ 255) := by
  obtain ⟨a, len, cap, i, h, hb, hg, hi, hl, hy⟩ := hc
  have hgs : g < w.heap.size := (Array.getElem?_eq_some_iff.1 hg).1
  have c0 : w.cell? ⟨g, 0, none⟩ = some (.slice a len cap) := by simp [World.cell?, hg]
  have c1 : w.cell? ⟨g, 1, none⟩ = some (.int .i64 i) := by simp [World.cell?, hg]
  have c2 : w.cell? ⟨g, 2, none⟩ = some (.int .i64 h) := by simp [World.cell?, hg]
  have z1 : w.frozen? ⟨g, 1, none⟩ = false := by simp [World.frozen?, hg]
  have z2 : w.frozen? ⟨g, 2, none⟩ = false := by simp [World.frozen?, hg]
  have hg' := Lib.hid hg
  have hy' := Lib.hid hy
  clear hg
  by_cases hlt : i < len
  · rcases hy with h0 | ⟨b, off, rfl, hbB, hcell⟩
    · omega
    obtain ⟨n, hn0, hn1, hn⟩ := hcell i hlt
    have hbg : b ≠ g := by omega
    have hgb : g ≠ b := by omega
    clear hcell
    go_enter Tryz.func60, Tryz.ntmps60
    go_wp2
    go_quiet (fail)
    go_wp2
    go_quiet (fail)
    go_wp2
    go_quiet (fail)
    go_wp2
    go_ret
    refine drew_mk (B := B) (T := 75) (g := g) (w := w) (and255 _) ⟨_, len, cap, i + 1, wrap64 (wrap64 (h * 6364136223846793005) + 1442695040888963407), hb, by simp [World.setCell, World.drewN, Array.getElem?_modify, hg'.out], by omega, hl, hy'.out⟩ ?_
    repeat (first | exact Mod.refl _ _ | refine Mod.drewN ?_ _ | refine Mod.setAt ?_ _ _ _)
  · go_enter Tryz.func60, Tryz.ntmps60
    go_wp2
    go_quiet (fail)
    go_wp2
    go_quiet (fail)
    go_wp2
    go_ret
    refine drew_mk (B := B) (T := 75) (g := g) (w := w) (and255 _) ⟨_, len, cap, i, wrap64 (wrap64 (h * 6364136223846793005) + 1442695040888963407), hb, by simp [World.setCell, World.drewN, Array.getElem?_modify, hg'.out], by omega, hl, hy'.out⟩ ?_
    repeat (first | exact Mod.refl _ _ | refine Mod.drewN ?_ _ | refine Mod.setAt ?_ _ _ _)

set_option maxRecDepth 100000 in
theorem l01Below_any (B g : Nat) (w : World) (hc : Cur B 75 w g) (n : Int) (hn : n ≤ 1000000000) :
    Calls Tryz.prog 42 #[.pointer (some ⟨g, 0, none⟩), .int .i64 n] w (Drew B 75 g w fun x => 0 ≤ x ∧ (x < n ∨ n ≤ 0 ∧ x = 0)) := by
  by_cases h0 : n ≤ 0
  · go_enter Tryz.func42, Tryz.ntmps42
    go_wp2
    go_ret
    exact ⟨0, ⟨by omega, .inr ⟨h0, rfl⟩⟩, rfl, hc, Mod.refl _ _⟩
  · have hp : 0 < n := by omega
    by_cases h1 : n ≤ 256
    · go_enter Tryz.func42, Tryz.ntmps42
      go_wp2_with fail
      refine (l01Byte_any B g w hc).mono ?_
      rintro e w1 ⟨x, hx, rfl, hc1, hm1⟩
      have hx0 := hx.1
      have hx1 := hx.2
      clear hx
      go_wp2
      go_ret
      refine ⟨_, ?_, rfl, hc1, hm1⟩
      have := Int.emod_nonneg x (show n ≠ 0 by omega)
      have := Int.emod_lt_of_pos x hp
      omega
    · have h2 : 256 < n := by omega
      go_enter Tryz.func42, Tryz.ntmps42
      go_wp2_with fail
      refine (l01Byte_any B g w hc).mono ?_
      rintro e w1 ⟨x1, ⟨hx1, hy1⟩, rfl, hc1, hm1⟩
      go_wp2_with fail
      refine (l01Byte_any B g w1 hc1).mono ?_
      rintro e w2 ⟨x2, ⟨hx2, hy2⟩, rfl, hc2, hm2⟩
      go_wp2_with fail
      refine (l01Byte_any B g w2 hc2).mono ?_
      rintro e w3 ⟨x3, ⟨hx3, hy3⟩, rfl, hc3, hm3⟩
      go_wp2_with fail
      refine (l01Byte_any B g w3 hc3).mono ?_
      rintro e w4 ⟨x4, ⟨hx4, hy4⟩, rfl, hc4, hm4⟩
      go_wp2
      go_ret
      refine ⟨_, ?_, rfl, hc4, ((hm1.trans hm2).trans hm3).trans hm4⟩
      have := Int.emod_nonneg (x1 * 16777216 + x2 * 65536 + x3 * 256 + x4) (show n ≠ 0 by omega)
      have := Int.emod_lt_of_pos (x1 * 16777216 + x2 * 65536 + x3 * 256 + x4) hp
      omega

theorem l01Once_any (B g : Nat) (w : World) (hc : Cur B 75 w g) (n : Int) (hn : n ≤ 1000000000) :
    Calls Tryz.prog 34 #[.pointer (some ⟨g, 0, none⟩), .int .i64 n] w fun e w' => ∃ b, e = .returned (.bool b) ∧ Cur B 75 w' g ∧ Mod (fun k => k = g) w w' := by
  go_enter Tryz.func34, Tryz.ntmps34
  go_wp2_with fail
  refine (l01Below_any B g w hc n hn).mono ?_
  rintro e w1 ⟨x, hx, rfl, hc1, hm1⟩
  clear hx
  go_wp2
  go_ret
  exact ⟨_, rfl, hc1, hm1⟩

set_option maxRecDepth 100000 in
theorem l01New_any (B : Nat) (w : World) (a : Option Addr) (len cap : Nat) (hB : B ≤ w.heap.size) (hl : len ≤ 1048576) (hy : Bytes B w a len) :
    Calls Tryz.prog 16 #[.slice a len cap] w (NewCur B 75 w) := by
  have Hy := Lib.hid hy
  clear hy
  go_enter Tryz.func16, Tryz.ntmps16
  go_wp2
  go_loop [3, 4] (fun h i => ∃ (k : Nat) (n : Int), k ≤ len ∧ h = .int .i64 n ∧ i = .int .i64 k) (fun _ i => len - (intOf i).toNat)
  case atStart => exact ⟨0, _, by omega, rfl, rfl⟩
  case round =>
    obtain ⟨k, n, hk, rfl, rfl⟩ := hrel
    by_cases hlt : k < len ∧ k < 4000
    · obtain ⟨h1, h2⟩ := hlt
      rcases Hy.out with h0 | ⟨b, off, rfl, hbB, hcell⟩
      · omega
      obtain ⟨m, hm0, hm1, hm⟩ := hcell k h1
      clear hcell
      go_wp2
      go_round
      case rel => exact ⟨k + 1, _, by omega, rfl, by go_num⟩
      case measure => simp [intOf]; omega
    · have hn : ¬ (k < len) ∨ (k < len ∧ ¬ k < 4000) := by omega
      clear hlt
      rcases hn with hn | ⟨hp, hn⟩
      all_goals
        go_wp2
        go_ret
        refine ⟨w.heap.size, Nat.le_refl _, rfl, ⟨a, len, cap, 0, n, hB, heap_alloc_new w _, by omega, hl, Hy.out.same fun k hk => ?_⟩, (Mod.refl _ w).alloc _⟩
        exact Below.heap_alloc _ _ _ (by omega)

/-- One of a list's numbers. -/
theorem l01PickInt_any (B g : Nat) (w : World) (hc : Cur B 75 w g) (b cap : Nat) (l : List Int) (hl : Ints w b 0 l) (hp : 0 < l.length) (hm : l.length ≤ 1000) (hbg : b ≠ g) :
    Calls Tryz.prog 41 #[.pointer (some ⟨g, 0, none⟩), .slice (some ⟨b, 0, none⟩) l.length cap] w (Drew B 75 g w fun x => x ∈ l) := by
  have Hl := Lib.hid hl
  clear hl
  go_enter Tryz.func41, Tryz.ntmps41
  go_wp2_with fail
  refine (l01Below_any B g w hc l.length (by omega)).mono ?_
  rintro e w1 ⟨x, ⟨hx0, hx1⟩, rfl, hc1, hm1⟩
  obtain ⟨k, rfl⟩ := Int.eq_ofNat_of_zero_le hx0
  have hk : k < l.length := by omega
  have hcell := (Hl.out.mod hm1 (show ¬ b = g from hbg)) k hk
  rw [Nat.zero_add] at hcell
  clear hx1
  go_wp2
  go_ret
  exact ⟨_, by simp, rfl, hc1, hm1⟩

end Go.Proofs.YthffgbhphjkdeaaGreatDoor
namespace Go.Proofs.YthffgbhphjkdeaaGreatDoor
open Go.RowKit
set_option linter.unusedVariables false
set_option linter.unusedSimpArgs false

section
variable {P : Program} {n : Nat} {W : World} {R : Rg W} {L : List Blk} {O : List Own} {E : List Res} {f : List (Nat × Value)} {Q : Exit → Go.Act → World → Prop} {ops : Array Oper} {rest : List Oper}
theorem wp_mono_then {c y : Code} {K : Go.Act → World → Prop} {a : Go.Act} {w : World} (h : c.wp P (Exit.then K Q) a w) (hK : ∀ a w, K a w → y.wp P Q a w) : c.wp P (Exit.then (y.wp P Q) Q) a w :=
  wp_mono h (fun e a w q => by
    cases e with
    | normal => exact hK a w q
    | exit id => exact q
    | goto l => exact q
    | ret => exact q
    | panic ch => exact q
    | outgrown => exact q)
/-- A part of the text whose ways are told by one kind of state, and what follows. -/
theorem SX.join {ι : Type} {c y : Code} (inv : ι → Prop) (Lf : ι → List Blk) (Of : ι → List Own) (Ef : ι → List Res) (ff : ι → List (Nat × Value))
    (h1 : SX P n W R L O E f c (Exit.then (fun a w => ∃ i, inv i ∧ Fr n (ff i) a ∧ Loc W R (Lf i) (Of i) (Ef i) w) Q))
    (h2 : ∀ i, inv i → SX P n W R (Lf i) (Of i) (Ef i) (ff i) y Q) : SX P n W R L O E f c (Exit.then (y.wp P Q) Q) := ⟨fun a w hf hl =>
  wp_mono_then (h1.run a w hf hl) fun a w ⟨i, hi, hf, hl⟩ => (h2 i hi).run a w hf hl⟩
theorem SQ.join {ι : Type} {inv : ι → Prop} {Lf : ι → List Blk} {Of : ι → List Own} {Ef : ι → List Res} {ff : ι → List (Nat × Value)} (i : ι) (h : inv i) (hs : subF f (ff i)) (hl : ∀ w, Loc W R L O E w → Loc W R (Lf i) (Of i) (Ef i) w) :
    SQ n W R L O E f .normal (Exit.then (fun a w => ∃ i, inv i ∧ Fr n (ff i) a ∧ Loc W R (Lf i) (Of i) (Ef i) w) Q) := ⟨fun _ w hf hl' => ⟨i, h, hf.sub hs, hl w hl'⟩⟩
/-- A cursor may turn. -/
def curRg (T : TypeId) (B g : Nat) (W : World) (hg : g < W.heap.size) (hB : B ≤ g) : Rg W where
  p := fun k => k = g
  q := fun _ => False
  J := fun w => Cur B T w g
  low := fun k hk => by subst hk; exact hg
  sub := fun _ h => h.elim
  keep := fun S w w' h hm hs => h.mod hm (fun hS => hs g hg hS) (fun k hk hS => hs k (by omega) hS)
/-- What a drawing call gives. -/
def DrewV {ξ : Type} (T : TypeId) (B g : Nat) (w : World) (v : ξ → Value) (K : ξ → Prop) (e : Ending) (w' : World) : Prop := ∃ x, e = .returned (v x) ∧ K x ∧ Mod (fun k => k = g) w w' ∧ Cur B T w' g
theorem Drew.v {T : TypeId} {B g : Nat} {w : World} {p : Int → Prop} {e : Ending} {w' : World} (h : Drew B T g w p e w') : DrewV T B g w (fun x : Int => .int .i64 x) p e w' := by
  obtain ⟨x, hp, he, hc, hm⟩ := h
  exact ⟨x, he, hp, hm, hc⟩
variable {d : Option Nat} {dn g B T : Nat} {fn : FuncId} {ars : List Operand} {args : List Value} {aT : Array TypeId} {ty : TypeId} {pos : String} {af : Array Edge} {gd : Option (Nat × Bool)} {hg : g < W.heap.size} {hB : B ≤ g}
theorem SXl.draw {ξ : Type} {v : ξ → Value} [TFun P fn] (hw : wantO ops f ⟨some dn, .call ⟨.value (.func fn), ars.toArray, aT⟩, ty, pos, af, gd⟩ = some true) (hd : Nat.blt dn n = true) (ha : evL f ars = some args) (K : ξ → Prop)
    (hc : ∀ w, Loc W (curRg T B g W hg hB) L O [] w → Calls P fn args.toArray w (DrewV T B g w v K))
    (h : ∀ x, K x → SXl P n W (curRg T B g W hg hB) ops L O [] ((dn, v x) :: f) rest Q) : SXl P n W (curRg T B g W hg hB) ops L O [] f (⟨some dn, .call ⟨.value (.func fn), ars.toArray, aT⟩, ty, pos, af, gd⟩ :: rest) Q :=
  SXl.callJ (ξ := ξ) (v := v) (fun _ h => h) hw hd ha K hc h
theorem calls_draw {fid : FuncId} {fun_ : Func} {c : Code} {as_ : List Value} {w : World} {R' : Ending → World → Prop} (hc : Cur B T w g) (hf : P.funcs[fid]? = some fun_) (hb : fun_.body = some c) (hn : fun_.ntmps = n)
    (hfr : ∀ a : Go.Act, a.defers = [] → n ≤ a.tmps.size → (∀ (t : Nat) (v : Value), as_[t]? = some v → a.tmps[t]? = some v) → Fr n f a)
    (h : SX P n w (curRg T B g w hc.size hc.base) [] [] [] f c (bodyPost P fun_ R')) : Calls P fid as_.toArray w R' :=
  calls_sxJ (curRg T B g w hc.size hc.base) hc hf hb hn hfr h
/-- A cursor of the call's own, over old bytes. -/
def curRes (T : TypeId) (W : World) (g : Nat) : Res where
  foot := fun k => k = g
  says := fun w => W.heap.size ≤ g ∧ ∃ (a : Option Addr) (len cap i : Nat) (h : Int), w.heap[g]? = some (.cells #[.slice a len cap, .int .i64 (i : Int), .int .i64 h] T (0, 0)) ∧ i ≤ len ∧ len ≤ 1048576 ∧ Bytes W.heap.size W a len
  stable := fun S w w' ⟨h0, a, len, cap, i, h, h1, h2⟩ hm hs => ⟨h0, a, len, cap, i, h, hm.blk h1 (hs g rfl), h2⟩
theorem cur_of {w : World} (hm : Mod (fun _ => False) W w) (h : (curRes T W g).says w) : Cur W.heap.size T w g := by
  obtain ⟨h0, a, len, cap, i, hh, h1, h2, h3, h4⟩ := h
  exact ⟨a, len, cap, i, hh, h0, h1, h2, h3, h4.same fun k hk => hm.block k hk (fun f => f)⟩
theorem of_cur {w : World} (hk : ∀ k, k < W.heap.size → w.heap[k]? = W.heap[k]?) (h : Cur W.heap.size T w g) : (curRes T W g).says w := by
  obtain ⟨a, len, cap, i, hh, h0, h1, h2, h3, h4⟩ := h
  exact ⟨h0, a, len, cap, i, hh, h1, h2, h3, h4.same fun k hk2 => (hk k hk2).symm⟩
/-- A new cursor. -/
theorem SXl.newCur [TFun P fn] (hw : wantO ops f ⟨some dn, .call ⟨.value (.func fn), ars.toArray, aT⟩, ty, pos, af, gd⟩ = some true) (hd : Nat.blt dn n = true) (ha : evL f ars = some args)
    (hc : ∀ w, Loc W (Rg.none W) L O E w → Calls P fn args.toArray w (NewCur W.heap.size T w))
    (h : ∀ g, SXl P n W (Rg.none W) ops L O (curRes T W g :: E) ((dn, .pointer (some ⟨g, 0, none⟩)) :: f) rest Q) : SXl P n W (Rg.none W) ops L O E f (⟨some dn, .call ⟨.value (.func fn), ars.toArray, aT⟩, ty, pos, af, gd⟩ :: rest) Q :=
  SXl.calln1 (ξ := Nat) (v := fun g => .pointer (some ⟨g, 0, none⟩)) (F1 := curRes T W) hw hd ha (fun w hl => (hc w hl).mono fun e w' ⟨g, h1, h2, h3, h4⟩ => ⟨g, h2, ⟨of_cur (fun k hk => by
    have e1 := hl.mod.block k hk (fun f => f)
    have e2 := h4.block k (Nat.lt_of_lt_of_le hk hl.mod.size) (fun f => f)
    rw [e2, e1]) h3, fun k hk => by subst hk; exact ⟨h1, h3.size⟩⟩, h4⟩) h
/-- A draw from it. -/
theorem SXl.drawC {ξ : Type} {v : ξ → Value} [TFun P fn] (i : Nat) (hw : wantO ops f ⟨some dn, .call ⟨.value (.func fn), ars.toArray, aT⟩, ty, pos, af, gd⟩ = some true) (hd : Nat.blt dn n = true) (ha : evL f ars = some args) (hi : E[i]? = some (curRes T W g)) (K : ξ → Prop)
    (hc : ∀ w, Loc W (Rg.none W) L O E w → Cur W.heap.size T w g → Calls P fn args.toArray w (DrewV T W.heap.size g w v K))
    (h : ∀ x, K x → SXl P n W (Rg.none W) ops L O E ((dn, v x) :: f) rest Q) : SXl P n W (Rg.none W) ops L O E f (⟨some dn, .call ⟨.value (.func fn), ars.toArray, aT⟩, ty, pos, af, gd⟩ :: rest) Q := by
  have hE : E.set i (curRes T W g) = E := by
    refine List.ext_getElem? fun j => ?_
    rw [List.getElem?_set]
    split
    · rename_i e
      subst e
      rw [hi]
      split
      · rfl
      · rename_i hlt
        have := (List.getElem?_eq_some_iff.1 hi).1
        exact (hlt this).elim
    · rfl
  refine SXl.callM (ξ := ξ) (v := v) (F' := fun _ => curRes T W g) i hw hd ha hi (fun _ _ h => h) K (fun w hl => ?_) (fun x hx => by rw [hE]; exact h x hx)
  have hmem : curRes T W g ∈ E := List.mem_iff_getElem?.2 ⟨i, hi⟩
  have hs := (hl.res _ hmem).1
  have hnew := hl.resNew _ hmem g rfl
  refine (hc w hl (cur_of hl.mod hs)).mono ?_
  rintro e w' ⟨x, he, hk, hm, hcur⟩
  refine ⟨x, he, hk, of_cur (fun k hk2 => ?_) hcur, hm⟩
  rw [hm.block k (Nat.lt_of_lt_of_le hk2 hl.mod.size) (fun e => by omega), hl.mod.block k hk2 (fun f => f)]
end
end Go.Proofs.YthffgbhphjkdeaaGreatDoor
namespace Go.Proofs.YthffgbhphjkdeaaGreatDoor

structure Space where
  mode : Int
  n : Int
  deriving DecidableEq, Inhabited
def Space.cells (s : Space) : List Value := [.int .i64 s.mode, .int .i64 s.n]

structure Asked where
  node : Int
  wide : Space
  high : Space
  rtl : Bool
  deriving DecidableEq, Inhabited
def Asked.cells (x : Asked) : List Value := [.int .i64 x.node, .int .i64 x.wide.mode, .int .i64 x.wide.n, .int .i64 x.high.mode, .int .i64 x.high.n, .bool x.rtl]

structure Rule where
  room : Int
  wide : Int
  high : Int
  deriving DecidableEq, Inhabited
def Rule.cells (x : Rule) : List Value := [.int .i64 x.room, .int .i64 x.wide, .int .i64 x.high]

structure Val where
  kind : Int
  n : Int
  deriving DecidableEq, Inhabited
def Val.cells (x : Val) : List Value := [.int .i64 x.kind, .int .i64 x.n]

structure ActD where
  kind : Int
  n : Int
  kid : Int
  pl : Int
  key : ByteArray
  value : Val
  table : List Rule
  wide : Int
  high : Int
  rtl : Bool
/-- An action's cells: the table is a slice. -/
def repAct (R : Nat → Prop) (w : World) (cs : List Value) (x : ActD) : Prop :=
  ∃ a c, cs = [.int .i64 x.kind, .int .i64 x.n, .int .i64 x.kid, .int .i64 x.pl, .string x.key, .int .i64 x.value.kind, .int .i64 x.value.n, .slice a x.table.length c, .int .i64 x.wide, .int .i64 x.high, .bool x.rtl] ∧ SliceAt (Flat Rule.cells) 3 R w a x.table
theorem repAct.mod {R S : Nat → Prop} {w w' : World} {cs : List Value} {x : ActD} (h : repAct R w cs x) (hm : Mod S w w') (hs : ∀ k, R k → ¬ S k) : repAct R w' cs x := by
  obtain ⟨a, c, h1, h2⟩ := h
  exact ⟨a, c, h1, h2.flatMod hm hs⟩

structure Frame where
  node : Int
  x : Int
  y : Int
  wide : Int
  high : Int
  deriving DecidableEq, Inhabited
def Frame.cells (f : Frame) : List Value := [.int .i64 f.node, .int .i64 f.x, .int .i64 f.y, .int .i64 f.wide, .int .i64 f.high]
structure Memo where
  node : Int
  wide : Space
  high : Space
  rtl : Bool
  bw : Int
  bh : Int
  bb : Int
  frames : List Frame
  deriving DecidableEq, Inhabited

end Go.Proofs.YthffgbhphjkdeaaGreatDoor
namespace Go.Proofs.YthffgbhphjkdeaaGreatDoor
open Go.RowKit

end Go.Proofs.YthffgbhphjkdeaaGreatDoor
namespace Go.Proofs.YthffgbhphjkdeaaGreatDoor
open Go.RowKit

structure Sides where
  left : Val
  top : Val
  right : Val
  bottom : Val
  start : Val
  stop : Val
  deriving DecidableEq, Inhabited
def Sides.cells (x : Sides) : List Value := [.int .i64 x.left.kind, .int .i64 x.left.n, .int .i64 x.top.kind, .int .i64 x.top.n, .int .i64 x.right.kind, .int .i64 x.right.n, .int .i64 x.bottom.kind, .int .i64 x.bottom.n, .int .i64 x.start.kind, .int .i64 x.start.n, .int .i64 x.stop.kind, .int .i64 x.stop.n]

structure Edges where
  left : Int
  top : Int
  right : Int
  bottom : Int
  deriving DecidableEq, Inhabited
def Edges.cells (x : Edges) : List Value := [.int .i64 x.left, .int .i64 x.top, .int .i64 x.right, .int .i64 x.bottom]

structure Style where
  dir : Int
  wrap : Int
  justify : Int
  items : Int
  self : Int
  content : Int
  apart : Bool
  hidden : Bool
  order : Int
  grow : Int
  shrink : Int
  basis : Val
  width : Val
  height : Val
  minWidth : Val
  minHeight : Val
  maxWidth : Val
  maxHeight : Val
  ratio : Int
  margin : Sides
  inset : Sides
  pad : Edges
  border : Edges
  rowGap : Int
  colGap : Int
  deriving DecidableEq, Inhabited
def Style.cells (x : Style) : List Value := [.int .i64 x.dir, .int .i64 x.wrap, .int .i64 x.justify, .int .i64 x.items, .int .i64 x.self, .int .i64 x.content, .bool x.apart, .bool x.hidden, .int .i64 x.order, .int .i64 x.grow, .int .i64 x.shrink, .int .i64 x.basis.kind, .int .i64 x.basis.n, .int .i64 x.width.kind, .int .i64 x.width.n, .int .i64 x.height.kind, .int .i64 x.height.n, .int .i64 x.minWidth.kind, .int .i64 x.minWidth.n, .int .i64 x.minHeight.kind, .int .i64 x.minHeight.n, .int .i64 x.maxWidth.kind, .int .i64 x.maxWidth.n, .int .i64 x.maxHeight.kind, .int .i64 x.maxHeight.n, .int .i64 x.ratio, .int .i64 x.margin.left.kind, .int .i64 x.margin.left.n, .int .i64 x.margin.top.kind, .int .i64 x.margin.top.n, .int .i64 x.margin.right.kind, .int .i64 x.margin.right.n, .int .i64 x.margin.bottom.kind, .int .i64 x.margin.bottom.n, .int .i64 x.margin.start.kind, .int .i64 x.margin.start.n, .int .i64 x.margin.stop.kind, .int .i64 x.margin.stop.n, .int .i64 x.inset.left.kind, .int .i64 x.inset.left.n, .int .i64 x.inset.top.kind, .int .i64 x.inset.top.n, .int .i64 x.inset.right.kind, .int .i64 x.inset.right.n, .int .i64 x.inset.bottom.kind, .int .i64 x.inset.bottom.n, .int .i64 x.inset.start.kind, .int .i64 x.inset.start.n, .int .i64 x.inset.stop.kind, .int .i64 x.inset.stop.n, .int .i64 x.pad.left, .int .i64 x.pad.top, .int .i64 x.pad.right, .int .i64 x.pad.bottom, .int .i64 x.border.left, .int .i64 x.border.top, .int .i64 x.border.right, .int .i64 x.border.bottom, .int .i64 x.rowGap, .int .i64 x.colGap]

end Go.Proofs.YthffgbhphjkdeaaGreatDoor
namespace Go.Proofs.YthffgbhphjkdeaaGreatDoor
open Go.RowKit
set_option linter.unusedVariables false
set_option linter.unusedSimpArgs false

/-- A cell that holds an int holds one of 64 bits. -/
def CellOk (v : Value) : Prop := ∀ n : Int, v = .int .i64 n → I64 n
def AllOk (c : List Value) : Prop := ∀ v ∈ c, CellOk v
theorem cellOk_int {n : Int} (h : I64 n) : CellOk (.int .i64 n) := fun m e => by cases e; exact h
theorem cellOk_bool (b : Bool) : CellOk (.bool b) := fun m e => by cases e
theorem AllOk.set {c : List Value} (h : AllOk c) {v : Value} (hv : CellOk v) (j : Nat) : AllOk (c.set j v) := fun u hu => by
  rcases List.mem_or_eq_of_mem_set hu with hu | rfl
  · exact h u hu
  · exact hv
theorem AllOk.over : ∀ {r c : List Value} {j : Nat}, AllOk c → AllOk r → AllOk (over c j r)
  | [], _, _, h, _ => h
  | v :: r, c, j, h, hr => AllOk.over (r := r) (h.set (hr v List.mem_cons_self) j) (fun u hu => hr u (List.mem_cons_of_mem _ hu))
theorem allOk_of {c : List Value} (h : c.all (fun v => match v with | .int .i64 n => decide (-9223372036854775808 ≤ n) && decide (n ≤ 9223372036854775807) | _ => true) = true) : AllOk c := fun v hv n e => by
  have := List.all_eq_true.1 h v hv
  subst e
  simp only [Bool.and_eq_true, decide_eq_true_eq] at this
  exact this
theorem SXl.drop1 {P : Program} {n : Nat} {W : World} {R : Rg W} {L : List Blk} {O : List Own} {E : List Res} {f : List (Nat × Value)} {Q : Exit → Go.Act → World → Prop} {ops : Array Oper} {rest : List Oper} {b : Blk} (h : SXl P n W R ops L O E f rest Q) : SXl P n W R ops (b :: L) O E f rest Q := ⟨fun a w hf hl => h.run a w hf hl.drop1⟩

theorem below_d (B gc : Nat) (w : World) (hc : Cur B 75 w gc) (n : Int) (h0 : 0 < n) (h1 : n ≤ 1000000000) : Calls Tryz.prog 42 #[.pointer (some ⟨gc, 0, none⟩), .int .i64 n] w (DrewV 75 B gc w (fun x : Int => .int .i64 x) (fun x => 0 ≤ x ∧ x < n)) :=
  (l01Below_any B gc w hc n h1).mono fun e w' ⟨x, hx, he, hc, hm⟩ => ⟨x, he, by omega, hm, hc⟩
theorem once_d (B gc : Nat) (w : World) (hc : Cur B 75 w gc) (n : Int) (h1 : n ≤ 1000000000) : Calls Tryz.prog 34 #[.pointer (some ⟨gc, 0, none⟩), .int .i64 n] w (DrewV 75 B gc w (fun b : Bool => .bool b) (fun _ => True)) :=
  (l01Once_any B gc w hc n h1).mono fun e w' ⟨b, he, hc, hm⟩ => ⟨b, he, trivial, hm, hc⟩
theorem pick_d {W : World} {B gc b : Nat} {hg : gc < W.heap.size} {hB : B ≤ gc} {L : List Blk} {O : List Own} {E : List Res} {w : World} {l : List Int} (hl : Loc W (curRg 75 B gc W hg hB) (⟨b, l.map (.int .i64), 3⟩ :: L) O E w) (h0 : 0 < l.length) (h1 : l.length ≤ 1000) :
    Calls Tryz.prog 41 #[.pointer (some ⟨gc, 0, none⟩), .slice (some ⟨b, 0, none⟩) l.length l.length] w (DrewV 75 B gc w (fun x : Int => .int .i64 x) (fun x => x ∈ l)) := by
  obtain ⟨hb, hcell⟩ := hl.blk _ (.head _)
  have hne : b ≠ gc := by
    rcases hb with h | h
    · exact h.elim
    · simp only at h; omega
  refine (l01PickInt_any B gc w hl.inv b l.length l (fun i hi => ?_) h0 h1 hne).mono fun e w' h => Drew.v h
  have := blk_cell (j := i) (v := .int .i64 (l.getD i 0)) hcell (by simp [List.getElem?_eq_getElem hi, List.getD, hi])
  rw [Nat.zero_add]
  exact this

set_option maxRecDepth 100000 in
set_option maxHeartbeats 8000000 in
theorem l02Int_d (B gc : Nat) (w : World) (hc : Cur B 75 w gc) : Calls Tryz.prog 55 #[.pointer (some ⟨gc, 0, none⟩)] w (DrewV 75 B gc w (fun x : Int => .int .i64 x) (fun x => I64 x)) := by
  refine calls_draw (as_ := [.pointer (some ⟨gc, 0, none⟩)]) hc Tryz.func55 rfl rfl (fun a h1 h2 h3 => ((Fr.nil h1 h2).arg (h3 0 _ rfl))) ?_
  repeat (first | refine SX.seq ?_ | refine SXl.nil ?_ | refine SX.region ?_ | refine SQ.thenNormal ?_ | (refine l_move ?_; (refine SXl.v (OpW.move rfl) rfl ?_ ?_ ?_); rfl; rfl) | (refine l_assign ?_; (refine SXl.v (OpW.assign rfl) rfl ?_ ?_ ?_); rfl; rfl))
  refine l_call ?_
  refine SXl.draw (ξ := Int) (v := fun x : Int => .int .i64 x) rfl rfl rfl (fun x => 0 ≤ x ∧ x < 6) (fun w hl => below_d B gc w hl.inv 6 (by decide) (by decide)) (fun x hx => ?_)
  by_cases h0 : x = 0
  · repeat (first | refine SX.seq ?_ | refine SXl.nil ?_ | refine SX.region ?_ | refine SQ.thenNormal ?_ | refine SX.block ?_ | refine SX.condT rfl ?_ | (refine l_move ?_; (refine SXl.v (OpW.move rfl) rfl ?_ ?_ ?_); rfl; rfl) | (refine l_assign ?_; (refine SXl.v (OpW.assign rfl) rfl ?_ ?_ ?_); rfl; rfl) | (refine l_eql ?_; (refine SXl.v (OpW.eqlT rfl rfl (by omega)) rfl ?_ ?_ ?_); rfl; rfl))
    refine l_buildSlice ?_
    refine SXl.lit (cells := [.int .i64 0, .int .i64 1, .int .i64 (-1), .int .i64 64, .int .i64 1048576, .int .i64 1048577, .int .i64 (-1048576), .int .i64 (-1048577), .int .i64 9223372036854775807, .int .i64 (-9223372036854775808)]) (z := .int .i64 0) ?_ ?_ rfl (by decide) (by kernel_rfl) rfl (fun gl => ?_)
    rfl; rfl
    skip
    refine l_call ?_
    refine SXl.draw (ξ := Int) (v := fun x => .int .i64 x) rfl rfl rfl (fun x => x ∈ ([0, 1, -1, 64, 1048576, 1048577, -1048576, -1048577, 9223372036854775807, -9223372036854775808] : List Int)) (fun w hl => pick_d (l := [0, 1, -1, 64, 1048576, 1048577, -1048576, -1048577, 9223372036854775807, -9223372036854775808]) hl (by decide) (by decide)) (fun y hy => ?_)
    repeat (first | refine SXl.nil ?_ | refine SQ.thenNormal ?_ | (refine l_assign ?_; (refine SXl.v (OpW.assign rfl) rfl ?_ ?_ ?_); rfl; rfl) | refine SX.ret ?_ | refine SQ.thenRet ?_ | refine SQ.blockRet ?_)
    refine SQ.body1 rfl rfl (fun w' hl => ⟨_, rfl, by simp at hy; exact ⟨by omega, by omega⟩, hl.mod, hl.inv⟩)
  by_cases h1 : x = 1
  · repeat (first | refine SX.seq ?_ | refine SXl.nil ?_ | refine SX.region ?_ | refine SQ.thenNormal ?_ | refine SX.block ?_ | refine SX.condT rfl ?_ | refine SX.condF rfl ?_ | (refine l_move ?_; (refine SXl.v (OpW.move rfl) rfl ?_ ?_ ?_); rfl; rfl) | (refine l_assign ?_; (refine SXl.v (OpW.assign rfl) rfl ?_ ?_ ?_); rfl; rfl) | (refine l_eql ?_; (first | refine SXl.v (OpW.eqlT rfl rfl (by omega)) rfl ?_ ?_ ?_ | refine SXl.v (OpW.eqlF rfl rfl (by omega)) rfl ?_ ?_ ?_); rfl; rfl))
    refine l_call ?_
    refine SXl.draw (ξ := Int) (v := fun x : Int => .int .i64 x) rfl rfl rfl (fun x => 0 ≤ x ∧ x < 5000) (fun w hl => below_d B gc w hl.inv 5000 (by decide) (by decide)) (fun y hy => ?_)
    repeat (first | refine SXl.nil ?_ | refine SQ.thenNormal ?_ | (refine l_neg ?_; (refine SXl.v ((OpW.negi rfl (by omega) (by omega))) rfl ?_ ?_ ?_); rfl; rfl) | (refine l_assign ?_; (refine SXl.v (OpW.assign rfl) rfl ?_ ?_ ?_); rfl; rfl) | refine SX.ret ?_ | refine SQ.thenRet ?_ | refine SQ.blockRet ?_)
    refine SQ.body1 rfl rfl (fun w' hl => ⟨_, rfl, ⟨by omega, by omega⟩, hl.mod, hl.inv⟩)
  repeat (first | refine SX.seq ?_ | refine SXl.nil ?_ | refine SX.region ?_ | refine SQ.thenNormal ?_ | refine SX.block ?_ | refine SX.skip ?_ | refine SX.condF rfl ?_ | (refine l_move ?_; (refine SXl.v (OpW.move rfl) rfl ?_ ?_ ?_); rfl; rfl) | (refine l_assign ?_; (refine SXl.v (OpW.assign rfl) rfl ?_ ?_ ?_); rfl; rfl) | (refine l_eql ?_; (refine SXl.v (OpW.eqlF rfl rfl (by omega)) rfl ?_ ?_ ?_); rfl; rfl) | refine SQ.blockNormal ?_)
  refine l_call ?_
  refine SXl.draw (ξ := Int) (v := fun x : Int => .int .i64 x) rfl rfl rfl (fun x => 0 ≤ x ∧ x < 8000) (fun w hl => below_d B gc w hl.inv 8000 (by decide) (by decide)) (fun y hy => ?_)
  repeat (first | refine SXl.nil ?_ | refine SQ.thenNormal ?_ | (refine l_assign ?_; (refine SXl.v (OpW.assign rfl) rfl ?_ ?_ ?_); rfl; rfl) | refine SX.ret ?_)
  refine SQ.body1 rfl rfl (fun w' hl => ⟨_, rfl, ⟨by omega, by omega⟩, hl.mod, hl.inv⟩)

set_option maxRecDepth 100000 in
set_option maxHeartbeats 8000000 in
theorem l04Value_d (B gc : Nat) (w : World) (hc : Cur B 75 w gc) : Calls Tryz.prog 54 #[.pointer (some ⟨gc, 0, none⟩)] w (DrewV 75 B gc w (fun v : Val => .agg v.cells.toArray) (fun v => AllOk v.cells)) := by
  refine calls_draw (as_ := [.pointer (some ⟨gc, 0, none⟩)]) hc Tryz.func54 rfl rfl (fun a h1 h2 h3 => ((Fr.nil h1 h2).arg (h3 0 _ rfl))) ?_
  repeat (first | refine SX.seq ?_ | refine SXl.nil ?_ | refine SX.region ?_ | refine SQ.thenNormal ?_ | (refine l_move ?_; (refine SXl.v (OpW.move rfl) rfl ?_ ?_ ?_); rfl; rfl) | (refine l_alloc ?_; refine SXl.alloc ?_ ?_ (fun g => ?_); rfl; rfl))
  refine l_call ?_
  refine SXl.draw (ξ := Int) (v := fun x : Int => .int .i64 x) rfl rfl rfl (fun x => 0 ≤ x ∧ x < 6) (fun w hl => below_d B gc w hl.inv 6 (by decide) (by decide)) (fun x hx => ?_)
  by_cases h0 : x = 0
  · repeat (first | refine SX.seq ?_ | refine SXl.nil ?_ | refine SX.region ?_ | refine SQ.thenNormal ?_ | refine SX.block ?_ | refine SX.condT rfl ?_ | (refine l_move ?_; (refine SXl.v (OpW.move rfl) rfl ?_ ?_ ?_); rfl; rfl) | (refine l_assign ?_; (refine SXl.v (OpW.assign rfl) rfl ?_ ?_ ?_); rfl; rfl) | (refine l_eql ?_; (refine SXl.v (OpW.eqlT rfl rfl (by omega)) rfl ?_ ?_ ?_); rfl; rfl))
    refine l_buildSlice ?_
    refine SXl.lit (cells := [.int .i64 0, .int .i64 10, .int .i64 25, .int .i64 50, .int .i64 100, .int .i64 150, .int .i64 33]) (z := .int .i64 0) ?_ ?_ rfl (by decide) (by kernel_rfl) rfl (fun gl => ?_)
    rfl; rfl
    skip
    refine l_call ?_
    refine SXl.draw (ξ := Int) (v := fun x => .int .i64 x) rfl rfl rfl (fun x => x ∈ ([0, 10, 25, 50, 100, 150, 33] : List Int)) (fun w hl => pick_d (l := [0, 10, 25, 50, 100, 150, 33]) hl (by decide) (by decide)) (fun y hy => ?_)
    refine SXl.drop1 ?_
    have hy2 : 0 ≤ y ∧ y ≤ 150 := by simp at hy; omega
    repeat (first | refine SXl.nil ?_ | refine SQ.thenNormal ?_ | (refine l_build ?_; (refine SXl.v ((OpW.build (vals := [(0, .int .i64 2), (1, .int .i64 y)]) (cells := [.int .i64 2, .int .i64 y]) rfl (by kernel_rfl))) rfl ?_ ?_ ?_); rfl; rfl) | (refine l_store ?_; first | (refine SXl.storeAll 0 ?_ rfl rfl rfl rfl rfl rfl rfl ?_; rfl; simp only [List.set_cons_zero, List.set_cons_succ]) | (refine SXl.storeAll 1 ?_ rfl rfl rfl rfl rfl rfl rfl ?_; rfl; simp only [List.set_cons_zero, List.set_cons_succ]) | (refine SXl.storeAll 2 ?_ rfl rfl rfl rfl rfl rfl rfl ?_; rfl; simp only [List.set_cons_zero, List.set_cons_succ]) | (refine SXl.storeRow 0 ?_ rfl rfl rfl rfl rfl rfl rfl ?_; rfl; simp only [over, List.set_cons_zero, List.set_cons_succ]) | (refine SXl.storeRow 1 ?_ rfl rfl rfl rfl rfl rfl rfl ?_; rfl; simp only [over, List.set_cons_zero, List.set_cons_succ]) | (refine SXl.storeRow 2 ?_ rfl rfl rfl rfl rfl rfl rfl ?_; rfl; simp only [over, List.set_cons_zero, List.set_cons_succ])) | refine SX.ret ?_ | refine SQ.thenRet ?_ | refine SQ.blockRet ?_)
    refine SQ.bodyCell 0 rfl rfl rfl rfl (fun w' hl => ⟨⟨2, y⟩, rfl, (by intro u hu; simp [Val.cells] at hu; rcases hu with rfl | rfl <;> exact cellOk_int ⟨by omega, by omega⟩), hl.mod, hl.inv⟩)
  by_cases h12 : x = 1 ∨ x = 2
  · have hz2 : ∀ z : Int, 0 ≤ z ∧ z < 3000 → ∀ y : Int, y ∈ ([0, 64, 100, 640, 1000, 33, z] : List Int) → 0 ≤ y ∧ y ≤ 3000 := fun z hz y hy => by simp at hy; omega
    rcases h12 with h12 | h12
    · repeat (first | refine SX.seq ?_ | refine SXl.nil ?_ | refine SX.region ?_ | refine SQ.thenNormal ?_ | refine SX.block ?_ | refine SX.skip ?_ | refine SX.condT rfl ?_ | refine SX.condF rfl ?_ | (refine l_move ?_; (refine SXl.v (OpW.move rfl) rfl ?_ ?_ ?_); rfl; rfl) | (refine l_assign ?_; (refine SXl.v (OpW.assign rfl) rfl ?_ ?_ ?_); rfl; rfl) | (refine l_eql ?_; (first | refine SXl.v (OpW.eqlT rfl rfl (by omega)) rfl ?_ ?_ ?_ | refine SXl.v (OpW.eqlF rfl rfl (by omega)) rfl ?_ ?_ ?_); rfl; rfl))
      refine l_call ?_
      refine SXl.draw (ξ := Int) (v := fun x : Int => .int .i64 x) rfl rfl rfl (fun x => 0 ≤ x ∧ x < 3000) (fun w hl => below_d B gc w hl.inv 3000 (by decide) (by decide)) (fun z hz => ?_)
      skip
      refine l_buildSlice ?_
      refine SXl.lit (cells := [.int .i64 0, .int .i64 64, .int .i64 100, .int .i64 640, .int .i64 1000, .int .i64 33, .int .i64 z]) (z := .int .i64 0) ?_ ?_ rfl (by decide) (by kernel_rfl) rfl (fun gl => ?_)
      rfl; rfl
      skip
      refine l_call ?_
      refine SXl.draw (ξ := Int) (v := fun x => .int .i64 x) rfl rfl rfl (fun x => x ∈ ([0, 64, 100, 640, 1000, 33, z] : List Int)) (fun w hl => pick_d (l := [0, 64, 100, 640, 1000, 33, z]) hl (by simp) (by simp)) (fun y hy => ?_)
      refine SXl.drop1 ?_
      have hy2 := hz2 z hz y hy
      repeat (first | refine SXl.nil ?_ | refine SQ.thenNormal ?_ | (refine l_build ?_; (refine SXl.v ((OpW.build (vals := [(0, .int .i64 1), (1, .int .i64 y)]) (cells := [.int .i64 1, .int .i64 y]) rfl (by kernel_rfl))) rfl ?_ ?_ ?_); rfl; rfl) | (refine l_store ?_; first | (refine SXl.storeAll 0 ?_ rfl rfl rfl rfl rfl rfl rfl ?_; rfl; simp only [List.set_cons_zero, List.set_cons_succ]) | (refine SXl.storeAll 1 ?_ rfl rfl rfl rfl rfl rfl rfl ?_; rfl; simp only [List.set_cons_zero, List.set_cons_succ]) | (refine SXl.storeAll 2 ?_ rfl rfl rfl rfl rfl rfl rfl ?_; rfl; simp only [List.set_cons_zero, List.set_cons_succ]) | (refine SXl.storeRow 0 ?_ rfl rfl rfl rfl rfl rfl rfl ?_; rfl; simp only [over, List.set_cons_zero, List.set_cons_succ]) | (refine SXl.storeRow 1 ?_ rfl rfl rfl rfl rfl rfl rfl ?_; rfl; simp only [over, List.set_cons_zero, List.set_cons_succ]) | (refine SXl.storeRow 2 ?_ rfl rfl rfl rfl rfl rfl rfl ?_; rfl; simp only [over, List.set_cons_zero, List.set_cons_succ])) | refine SX.ret ?_ | refine SQ.thenRet ?_ | refine SQ.blockRet ?_)
      refine SQ.bodyCell 0 rfl rfl rfl rfl (fun w' hl => ⟨⟨1, y⟩, rfl, (by intro u hu; simp [Val.cells] at hu; rcases hu with rfl | rfl <;> exact cellOk_int ⟨by omega, by omega⟩), hl.mod, hl.inv⟩)
    · repeat (first | refine SX.seq ?_ | refine SXl.nil ?_ | refine SX.region ?_ | refine SQ.thenNormal ?_ | refine SX.block ?_ | refine SX.condT rfl ?_ | refine SX.condF rfl ?_ | (refine l_move ?_; (refine SXl.v (OpW.move rfl) rfl ?_ ?_ ?_); rfl; rfl) | (refine l_assign ?_; (refine SXl.v (OpW.assign rfl) rfl ?_ ?_ ?_); rfl; rfl) | (refine l_eql ?_; (first | refine SXl.v (OpW.eqlT rfl rfl (by omega)) rfl ?_ ?_ ?_ | refine SXl.v (OpW.eqlF rfl rfl (by omega)) rfl ?_ ?_ ?_); rfl; rfl))
      refine l_call ?_
      refine SXl.draw (ξ := Int) (v := fun x : Int => .int .i64 x) rfl rfl rfl (fun x => 0 ≤ x ∧ x < 3000) (fun w hl => below_d B gc w hl.inv 3000 (by decide) (by decide)) (fun z hz => ?_)
      skip
      refine l_buildSlice ?_
      refine SXl.lit (cells := [.int .i64 0, .int .i64 64, .int .i64 100, .int .i64 640, .int .i64 1000, .int .i64 33, .int .i64 z]) (z := .int .i64 0) ?_ ?_ rfl (by decide) (by kernel_rfl) rfl (fun gl => ?_)
      rfl; rfl
      skip
      refine l_call ?_
      refine SXl.draw (ξ := Int) (v := fun x => .int .i64 x) rfl rfl rfl (fun x => x ∈ ([0, 64, 100, 640, 1000, 33, z] : List Int)) (fun w hl => pick_d (l := [0, 64, 100, 640, 1000, 33, z]) hl (by simp) (by simp)) (fun y hy => ?_)
      refine SXl.drop1 ?_
      have hy2 := hz2 z hz y hy
      repeat (first | refine SXl.nil ?_ | refine SQ.thenNormal ?_ | (refine l_build ?_; (refine SXl.v ((OpW.build (vals := [(0, .int .i64 1), (1, .int .i64 y)]) (cells := [.int .i64 1, .int .i64 y]) rfl (by kernel_rfl))) rfl ?_ ?_ ?_); rfl; rfl) | (refine l_store ?_; first | (refine SXl.storeAll 0 ?_ rfl rfl rfl rfl rfl rfl rfl ?_; rfl; simp only [List.set_cons_zero, List.set_cons_succ]) | (refine SXl.storeAll 1 ?_ rfl rfl rfl rfl rfl rfl rfl ?_; rfl; simp only [List.set_cons_zero, List.set_cons_succ]) | (refine SXl.storeAll 2 ?_ rfl rfl rfl rfl rfl rfl rfl ?_; rfl; simp only [List.set_cons_zero, List.set_cons_succ]) | (refine SXl.storeRow 0 ?_ rfl rfl rfl rfl rfl rfl rfl ?_; rfl; simp only [over, List.set_cons_zero, List.set_cons_succ]) | (refine SXl.storeRow 1 ?_ rfl rfl rfl rfl rfl rfl rfl ?_; rfl; simp only [over, List.set_cons_zero, List.set_cons_succ]) | (refine SXl.storeRow 2 ?_ rfl rfl rfl rfl rfl rfl rfl ?_; rfl; simp only [over, List.set_cons_zero, List.set_cons_succ])) | refine SX.ret ?_ | refine SQ.thenRet ?_ | refine SQ.blockRet ?_)
      refine SQ.bodyCell 0 rfl rfl rfl rfl (fun w' hl => ⟨⟨1, y⟩, rfl, (by intro u hu; simp [Val.cells] at hu; rcases hu with rfl | rfl <;> exact cellOk_int ⟨by omega, by omega⟩), hl.mod, hl.inv⟩)
  repeat (first | refine SX.seq ?_ | refine SXl.nil ?_ | refine SX.region ?_ | refine SQ.thenNormal ?_ | refine SX.block ?_ | refine SX.skip ?_ | refine SX.condF rfl ?_ | (refine l_build ?_; (refine SXl.v ((OpW.build (vals := []) (cells := [.int .i64 0, .int .i64 0]) rfl (by kernel_rfl))) rfl ?_ ?_ ?_); rfl; rfl) | (refine l_assign ?_; (refine SXl.v (OpW.assign rfl) rfl ?_ ?_ ?_); rfl; rfl) | (refine l_eql ?_; (refine SXl.v (OpW.eqlF rfl rfl (by omega)) rfl ?_ ?_ ?_); rfl; rfl) | (refine l_store ?_; first | (refine SXl.storeAll 0 ?_ rfl rfl rfl rfl rfl rfl rfl ?_; rfl; simp only [List.set_cons_zero, List.set_cons_succ]) | (refine SXl.storeAll 1 ?_ rfl rfl rfl rfl rfl rfl rfl ?_; rfl; simp only [List.set_cons_zero, List.set_cons_succ]) | (refine SXl.storeAll 2 ?_ rfl rfl rfl rfl rfl rfl rfl ?_; rfl; simp only [List.set_cons_zero, List.set_cons_succ]) | (refine SXl.storeRow 0 ?_ rfl rfl rfl rfl rfl rfl rfl ?_; rfl; simp only [over, List.set_cons_zero, List.set_cons_succ]) | (refine SXl.storeRow 1 ?_ rfl rfl rfl rfl rfl rfl rfl ?_; rfl; simp only [over, List.set_cons_zero, List.set_cons_succ]) | (refine SXl.storeRow 2 ?_ rfl rfl rfl rfl rfl rfl rfl ?_; rfl; simp only [over, List.set_cons_zero, List.set_cons_succ])) | refine SX.ret ?_ | refine SQ.blockNormal ?_)
  refine SQ.bodyCell 0 rfl rfl rfl rfl (fun w' hl => ⟨⟨0, 0⟩, rfl, (by intro u hu; simp [Val.cells] at hu; rcases hu with rfl | rfl <;> exact cellOk_int ⟨by omega, by omega⟩), hl.mod, hl.inv⟩)

set_option maxRecDepth 100000 in
set_option maxHeartbeats 8000000 in
theorem l04Any_d (B gc : Nat) (w : World) (hc : Cur B 75 w gc) : Calls Tryz.prog 37 #[.pointer (some ⟨gc, 0, none⟩)] w (DrewV 75 B gc w (fun v : Val => .agg v.cells.toArray) (fun v => AllOk v.cells)) := by
  refine calls_draw (as_ := [.pointer (some ⟨gc, 0, none⟩)]) hc Tryz.func37 rfl rfl (fun a h1 h2 h3 => ((Fr.nil h1 h2).arg (h3 0 _ rfl))) ?_
  repeat (first | refine SX.seq ?_ | refine SXl.nil ?_ | refine SX.region ?_ | refine SQ.thenNormal ?_ | (refine l_move ?_; (refine SXl.v (OpW.move rfl) rfl ?_ ?_ ?_); rfl; rfl) | (refine l_alloc ?_; refine SXl.alloc ?_ ?_ (fun g => ?_); rfl; rfl))
  refine l_call ?_
  refine SXl.draw (ξ := Val) (v := fun v => .agg v.cells.toArray) rfl rfl rfl (fun v => AllOk v.cells) (fun w hl => l04Value_d B gc w hl.inv) (fun v hv => ?_)
  repeat (first | refine SX.seq ?_ | refine SXl.nil ?_ | refine SX.region ?_ | refine SQ.thenNormal ?_ | (refine l_move ?_; (refine SXl.v (OpW.move rfl) rfl ?_ ?_ ?_); rfl; rfl) | (refine l_alloc ?_; refine SXl.alloc ?_ ?_ (fun g => ?_); rfl; rfl) | (refine l_store ?_; first | (refine SXl.store 0 ?_ rfl rfl rfl rfl rfl rfl ?_; rfl; simp only [List.set_cons_zero, List.set_cons_succ]) | (refine SXl.store 1 ?_ rfl rfl rfl rfl rfl rfl ?_; rfl; simp only [List.set_cons_zero, List.set_cons_succ]) | (refine SXl.store 2 ?_ rfl rfl rfl rfl rfl rfl ?_; rfl; simp only [List.set_cons_zero, List.set_cons_succ]) | (refine SXl.storeAll 0 ?_ rfl rfl rfl rfl rfl rfl rfl ?_; rfl; simp only [List.set_cons_zero, List.set_cons_succ]) | (refine SXl.storeAll 1 ?_ rfl rfl rfl rfl rfl rfl rfl ?_; rfl; simp only [List.set_cons_zero, List.set_cons_succ]) | (refine SXl.storeAll 2 ?_ rfl rfl rfl rfl rfl rfl rfl ?_; rfl; simp only [List.set_cons_zero, List.set_cons_succ]) | (refine SXl.storeRow 0 ?_ rfl rfl rfl rfl rfl rfl rfl ?_; rfl; simp only [over, List.set_cons_zero, List.set_cons_succ]) | (refine SXl.storeRow 1 ?_ rfl rfl rfl rfl rfl rfl rfl ?_; rfl; simp only [over, List.set_cons_zero, List.set_cons_succ]) | (refine SXl.storeRow 2 ?_ rfl rfl rfl rfl rfl rfl rfl ?_; rfl; simp only [over, List.set_cons_zero, List.set_cons_succ])))
  refine l_call ?_
  refine SXl.draw (ξ := Int) (v := fun x : Int => .int .i64 x) rfl rfl rfl (fun x => 0 ≤ x ∧ x < 10) (fun w hl => below_d B gc w hl.inv 10 (by decide) (by decide)) (fun x hx => ?_)
  have hk : I64 v.kind := hv _ (.head _) _ rfl
  have hn : I64 v.n := hv _ (.tail _ (.head _)) _ rfl
  obtain ⟨k1, k2⟩ := hk
  obtain ⟨n1, n2⟩ := hn
  by_cases h0 : x = 0
  · repeat (first | refine SX.seq ?_ | refine SXl.nil ?_ | refine SX.region ?_ | refine SQ.thenNormal ?_ | refine SX.block ?_ | refine SX.condT rfl ?_ | (refine l_move ?_; (refine SXl.v (OpW.move rfl) rfl ?_ ?_ ?_); rfl; rfl) | (refine l_assign ?_; (refine SXl.v (OpW.assign rfl) rfl ?_ ?_ ?_); rfl; rfl) | (refine l_eql ?_; (refine SXl.v (OpW.eqlT rfl rfl (by omega)) rfl ?_ ?_ ?_); rfl; rfl))
    refine l_call ?_
    refine SXl.draw (ξ := Int) (v := fun x : Int => .int .i64 x) rfl rfl rfl (fun x => 0 ≤ x ∧ x < 6) (fun w hl => below_d B gc w hl.inv 6 (by decide) (by decide)) (fun y hy => ?_)
    repeat (first | refine SX.seq ?_ | refine SXl.nil ?_ | refine SX.region ?_ | refine SQ.thenNormal ?_ | (refine l_load ?_; (refine SXl.v (OpW.loadAll 0 rfl rfl rfl) rfl ?_ ?_ ?_); rfl; rfl) | (refine l_fieldAddr ?_; (refine SXl.v (OpW.fieldAddr rfl) rfl ?_ ?_ ?_); rfl; rfl) | (refine l_sub ?_; (refine SXl.v (OpW.subi rfl rfl (by omega) (by omega)) rfl ?_ ?_ ?_); rfl; rfl) | (refine l_store ?_; first | (refine SXl.store 0 ?_ rfl rfl rfl rfl rfl rfl ?_; rfl; simp only [List.set_cons_zero, List.set_cons_succ]) | (refine SXl.store 1 ?_ rfl rfl rfl rfl rfl rfl ?_; rfl; simp only [List.set_cons_zero, List.set_cons_succ]) | (refine SXl.store 2 ?_ rfl rfl rfl rfl rfl rfl ?_; rfl; simp only [List.set_cons_zero, List.set_cons_succ]) | (refine SXl.storeAll 0 ?_ rfl rfl rfl rfl rfl rfl rfl ?_; rfl; simp only [List.set_cons_zero, List.set_cons_succ]) | (refine SXl.storeAll 1 ?_ rfl rfl rfl rfl rfl rfl rfl ?_; rfl; simp only [List.set_cons_zero, List.set_cons_succ]) | (refine SXl.storeAll 2 ?_ rfl rfl rfl rfl rfl rfl rfl ?_; rfl; simp only [List.set_cons_zero, List.set_cons_succ]) | (refine SXl.storeRow 0 ?_ rfl rfl rfl rfl rfl rfl rfl ?_; rfl; simp only [over, List.set_cons_zero, List.set_cons_succ]) | (refine SXl.storeRow 1 ?_ rfl rfl rfl rfl rfl rfl rfl ?_; rfl; simp only [over, List.set_cons_zero, List.set_cons_succ]) | (refine SXl.storeRow 2 ?_ rfl rfl rfl rfl rfl rfl rfl ?_; rfl; simp only [over, List.set_cons_zero, List.set_cons_succ])) | refine SX.ret ?_ | refine SQ.blockNormal ?_)
    refine SQ.bodyCell 1 rfl rfl rfl rfl (fun w' hl => ⟨⟨y - 1, v.n⟩, rfl, (by intro u hu; simp [Val.cells] at hu; rcases hu with rfl | rfl <;> exact cellOk_int ⟨by omega, by omega⟩), hl.mod, hl.inv⟩)
  by_cases h1 : x = 1
  · repeat (first | refine SX.seq ?_ | refine SXl.nil ?_ | refine SX.region ?_ | refine SQ.thenNormal ?_ | refine SX.block ?_ | refine SX.condT rfl ?_ | refine SX.condF rfl ?_ | (refine l_move ?_; (refine SXl.v (OpW.move rfl) rfl ?_ ?_ ?_); rfl; rfl) | (refine l_assign ?_; (refine SXl.v (OpW.assign rfl) rfl ?_ ?_ ?_); rfl; rfl) | (refine l_eql ?_; (first | refine SXl.v (OpW.eqlT rfl rfl (by omega)) rfl ?_ ?_ ?_ | refine SXl.v (OpW.eqlF rfl rfl (by omega)) rfl ?_ ?_ ?_); rfl; rfl))
    refine l_call ?_
    refine SXl.draw (ξ := Int) (v := fun x => .int .i64 x) rfl rfl rfl (fun x => I64 x) (fun w hl => l02Int_d B gc w hl.inv) (fun y hy => ?_)
    obtain ⟨y1, y2⟩ := hy
    repeat (first | refine SX.seq ?_ | refine SXl.nil ?_ | refine SX.region ?_ | refine SQ.thenNormal ?_ | (refine l_load ?_; (refine SXl.v (OpW.loadAll 0 rfl rfl rfl) rfl ?_ ?_ ?_); rfl; rfl) | (refine l_fieldAddr ?_; (refine SXl.v (OpW.fieldAddr rfl) rfl ?_ ?_ ?_); rfl; rfl) | (refine l_store ?_; first | (refine SXl.store 0 ?_ rfl rfl rfl rfl rfl rfl ?_; rfl; simp only [List.set_cons_zero, List.set_cons_succ]) | (refine SXl.store 1 ?_ rfl rfl rfl rfl rfl rfl ?_; rfl; simp only [List.set_cons_zero, List.set_cons_succ]) | (refine SXl.store 2 ?_ rfl rfl rfl rfl rfl rfl ?_; rfl; simp only [List.set_cons_zero, List.set_cons_succ]) | (refine SXl.storeAll 0 ?_ rfl rfl rfl rfl rfl rfl rfl ?_; rfl; simp only [List.set_cons_zero, List.set_cons_succ]) | (refine SXl.storeAll 1 ?_ rfl rfl rfl rfl rfl rfl rfl ?_; rfl; simp only [List.set_cons_zero, List.set_cons_succ]) | (refine SXl.storeAll 2 ?_ rfl rfl rfl rfl rfl rfl rfl ?_; rfl; simp only [List.set_cons_zero, List.set_cons_succ]) | (refine SXl.storeRow 0 ?_ rfl rfl rfl rfl rfl rfl rfl ?_; rfl; simp only [over, List.set_cons_zero, List.set_cons_succ]) | (refine SXl.storeRow 1 ?_ rfl rfl rfl rfl rfl rfl rfl ?_; rfl; simp only [over, List.set_cons_zero, List.set_cons_succ]) | (refine SXl.storeRow 2 ?_ rfl rfl rfl rfl rfl rfl rfl ?_; rfl; simp only [over, List.set_cons_zero, List.set_cons_succ])) | refine SX.ret ?_ | refine SQ.blockNormal ?_)
    refine SQ.bodyCell 1 rfl rfl rfl rfl (fun w' hl => ⟨⟨v.kind, y⟩, rfl, (by intro u hu; simp [Val.cells] at hu; rcases hu with rfl | rfl <;> exact cellOk_int ⟨by omega, by omega⟩), hl.mod, hl.inv⟩)
  by_cases h2 : x = 2
  · repeat (first | refine SX.seq ?_ | refine SXl.nil ?_ | refine SX.region ?_ | refine SQ.thenNormal ?_ | refine SX.block ?_ | refine SX.condT rfl ?_ | refine SX.condF rfl ?_ | (refine l_build ?_; (refine SXl.v ((OpW.build (vals := [(0, .int .i64 3)]) (cells := [.int .i64 3, .int .i64 0]) rfl (by kernel_rfl))) rfl ?_ ?_ ?_); rfl; rfl) | (refine l_load ?_; (refine SXl.v (OpW.loadAll 0 rfl rfl rfl) rfl ?_ ?_ ?_); rfl; rfl) | (refine l_assign ?_; (refine SXl.v (OpW.assign rfl) rfl ?_ ?_ ?_); rfl; rfl) | (refine l_eql ?_; (first | refine SXl.v (OpW.eqlT rfl rfl (by omega)) rfl ?_ ?_ ?_ | refine SXl.v (OpW.eqlF rfl rfl (by omega)) rfl ?_ ?_ ?_); rfl; rfl) | (refine l_store ?_; first | (refine SXl.store 0 ?_ rfl rfl rfl rfl rfl rfl ?_; rfl; simp only [List.set_cons_zero, List.set_cons_succ]) | (refine SXl.store 1 ?_ rfl rfl rfl rfl rfl rfl ?_; rfl; simp only [List.set_cons_zero, List.set_cons_succ]) | (refine SXl.store 2 ?_ rfl rfl rfl rfl rfl rfl ?_; rfl; simp only [List.set_cons_zero, List.set_cons_succ]) | (refine SXl.storeAll 0 ?_ rfl rfl rfl rfl rfl rfl rfl ?_; rfl; simp only [List.set_cons_zero, List.set_cons_succ]) | (refine SXl.storeAll 1 ?_ rfl rfl rfl rfl rfl rfl rfl ?_; rfl; simp only [List.set_cons_zero, List.set_cons_succ]) | (refine SXl.storeAll 2 ?_ rfl rfl rfl rfl rfl rfl rfl ?_; rfl; simp only [List.set_cons_zero, List.set_cons_succ]) | (refine SXl.storeRow 0 ?_ rfl rfl rfl rfl rfl rfl rfl ?_; rfl; simp only [over, List.set_cons_zero, List.set_cons_succ]) | (refine SXl.storeRow 1 ?_ rfl rfl rfl rfl rfl rfl rfl ?_; rfl; simp only [over, List.set_cons_zero, List.set_cons_succ]) | (refine SXl.storeRow 2 ?_ rfl rfl rfl rfl rfl rfl rfl ?_; rfl; simp only [over, List.set_cons_zero, List.set_cons_succ])) | refine SX.ret ?_ | refine SQ.blockNormal ?_)
    refine SQ.bodyCell 1 rfl rfl rfl rfl (fun w' hl => ⟨⟨3, 0⟩, rfl, (by intro u hu; simp [Val.cells] at hu; rcases hu with rfl | rfl <;> exact cellOk_int ⟨by omega, by omega⟩), hl.mod, hl.inv⟩)
  repeat (first | refine SX.seq ?_ | refine SXl.nil ?_ | refine SX.region ?_ | refine SQ.thenNormal ?_ | refine SX.block ?_ | refine SX.skip ?_ | refine SX.condF rfl ?_ | (refine l_load ?_; (refine SXl.v (OpW.loadAll 0 rfl rfl rfl) rfl ?_ ?_ ?_); rfl; rfl) | (refine l_assign ?_; (refine SXl.v (OpW.assign rfl) rfl ?_ ?_ ?_); rfl; rfl) | (refine l_eql ?_; (refine SXl.v (OpW.eqlF rfl rfl (by omega)) rfl ?_ ?_ ?_); rfl; rfl) | (refine l_store ?_; first | (refine SXl.store 0 ?_ rfl rfl rfl rfl rfl rfl ?_; rfl; simp only [List.set_cons_zero, List.set_cons_succ]) | (refine SXl.store 1 ?_ rfl rfl rfl rfl rfl rfl ?_; rfl; simp only [List.set_cons_zero, List.set_cons_succ]) | (refine SXl.store 2 ?_ rfl rfl rfl rfl rfl rfl ?_; rfl; simp only [List.set_cons_zero, List.set_cons_succ]) | (refine SXl.storeAll 0 ?_ rfl rfl rfl rfl rfl rfl rfl ?_; rfl; simp only [List.set_cons_zero, List.set_cons_succ]) | (refine SXl.storeAll 1 ?_ rfl rfl rfl rfl rfl rfl rfl ?_; rfl; simp only [List.set_cons_zero, List.set_cons_succ]) | (refine SXl.storeAll 2 ?_ rfl rfl rfl rfl rfl rfl rfl ?_; rfl; simp only [List.set_cons_zero, List.set_cons_succ]) | (refine SXl.storeRow 0 ?_ rfl rfl rfl rfl rfl rfl rfl ?_; rfl; simp only [over, List.set_cons_zero, List.set_cons_succ]) | (refine SXl.storeRow 1 ?_ rfl rfl rfl rfl rfl rfl rfl ?_; rfl; simp only [over, List.set_cons_zero, List.set_cons_succ]) | (refine SXl.storeRow 2 ?_ rfl rfl rfl rfl rfl rfl rfl ?_; rfl; simp only [over, List.set_cons_zero, List.set_cons_succ])) | refine SX.ret ?_ | refine SQ.blockNormal ?_)
  refine SQ.bodyCell 1 rfl rfl rfl rfl (fun w' hl => ⟨⟨v.kind, v.n⟩, rfl, (by intro u hu; simp [Val.cells] at hu; rcases hu with rfl | rfl <;> exact cellOk_int ⟨by omega, by omega⟩), hl.mod, hl.inv⟩)
end Go.Proofs.YthffgbhphjkdeaaGreatDoor
namespace Go.Proofs.YthffgbhphjkdeaaGreatDoor
open Go.RowKit

def inB (n a b : Int) : Bool := decide (a ≤ n ∧ n ≤ b)
theorem inB_true {n a b : Int} (h1 : a ≤ n) (h2 : n ≤ b) : inB n a b = true := by simp [inB, h1, h2]
theorem inB_low {n a b : Int} (h : n < a) : inB n a b = false := by simp [inB]; omega
theorem inB_high {n a b : Int} (h : b < n) : inB n a b = false := by simp [inB]; omega

theorem in_any (n a b : Int) (w : World) : Calls Tryz.prog 32 #[.int .i64 n, .int .i64 a, .int .i64 b] w fun e w' => e = .returned (.bool (inB n a b)) ∧ w = w' := by
  by_cases h1 : a ≤ n
  · by_cases h2 : n ≤ b
    · rw [inB_true h1 h2]
      go_enter Tryz.func32, Tryz.ntmps32
      go_wp2
      go_ret
      exact ⟨rfl, rfl⟩
    · rw [inB_high (by omega)]
      go_enter Tryz.func32, Tryz.ntmps32
      go_wp2
      go_ret
      exact ⟨rfl, rfl⟩
  · rw [inB_low (by omega)]
    go_enter Tryz.func32, Tryz.ntmps32
    go_wp2
    go_ret
    exact ⟨rfl, rfl⟩

theorem l01In_any (n a b : Int) (w : World) : Calls Tryz.prog 17 #[.int .i64 n, .int .i64 a, .int .i64 b] w fun e w' => e = .returned (.bool (inB n a b)) ∧ w = w' := by
  by_cases h1 : a ≤ n
  · by_cases h2 : n ≤ b
    · rw [inB_true h1 h2]
      go_enter Tryz.func17, Tryz.ntmps17
      go_wp2
      go_ret
      exact ⟨rfl, rfl⟩
    · rw [inB_high (by omega)]
      go_enter Tryz.func17, Tryz.ntmps17
      go_wp2
      go_ret
      exact ⟨rfl, rfl⟩
  · rw [inB_low (by omega)]
    go_enter Tryz.func17, Tryz.ntmps17
    go_wp2
    go_ret
    exact ⟨rfl, rfl⟩

end Go.Proofs.YthffgbhphjkdeaaGreatDoor
namespace Go.Proofs.YthffgbhphjkdeaaGreatDoor
open Go.RowKit
set_option linter.unusedVariables false
set_option linter.unusedSimpArgs false

def valOk (v : Val) : Bool := if v.kind = 0 ∨ v.kind = 3 then decide (v.n = 0) else if v.kind = 1 then inB v.n (-1048576) 1048576 else if v.kind = 2 then inB v.n (-1000) 1000 else false
def sizeOk (v : Val) : Bool := valOk v && decide (0 ≤ v.n)
def edgesOk (x : Edges) : Bool := inB x.left 0 1048576 && inB x.top 0 1048576 && inB x.right 0 1048576 && inB x.bottom 0 1048576
def sidesOk (x : Sides) : Bool := valOk x.left && valOk x.top && valOk x.right && valOk x.bottom && valOk x.start && valOk x.stop

set_option maxRecDepth 100000 in
set_option maxHeartbeats 4000000 in
theorem valueOk_any (v : Val) (w : World) : Calls Tryz.prog 30 #[.agg #[.int .i64 v.kind, .int .i64 v.n]] w fun e w' => e = .returned (.bool (valOk v)) ∧ Mod (fun _ => False) w w' := by
  refine calls_sx Tryz.func30 rfl rfl (fun a h1 h2 h3 => ((Fr.nil h1 h2).arg (h3 0 _ rfl))) ?_
  by_cases k0 : v.kind = 0
  · have hv : valOk v = decide (v.n = 0) := if_pos (.inl k0)
    repeat (first | refine SX.seq ?_ | refine SXl.nil ?_ | refine SX.region ?_ | refine SQ.thenNormal ?_ | refine SX.block ?_ | refine SX.skip ?_ | refine SX.condT rfl ?_ | (refine l_load ?_; (refine SXl.v (OpW.load 0 rfl rfl rfl) rfl ?_ ?_ ?_); rfl; rfl) | (refine l_fieldAddr ?_; (refine SXl.v (OpW.fieldAddr rfl) rfl ?_ ?_ ?_); rfl; rfl) | (refine l_assign ?_; (refine SXl.v (OpW.assign rfl) rfl ?_ ?_ ?_); rfl; rfl) | (refine l_eql ?_; (first | refine SXl.v (OpW.eqlT rfl rfl (by omega)) rfl ?_ ?_ ?_ | refine SXl.v (OpW.eql rfl rfl) rfl ?_ ?_ ?_); rfl; rfl) | (refine l_box ?_; refine SXl.box ?_ ?_ rfl rfl (fun g => ?_); rfl; rfl) | refine SX.ret ?_ | refine SQ.thenRet ?_ | refine SQ.blockRet ?_)
    refine SQ.body1 rfl rfl (fun w' hl => ⟨ret_bool hv.symm, hl.mod⟩)
  · by_cases k3 : v.kind = 3
    · have hv : valOk v = decide (v.n = 0) := if_pos (.inr k3)
      repeat (first | refine SX.seq ?_ | refine SXl.nil ?_ | refine SX.region ?_ | refine SQ.thenNormal ?_ | refine SX.block ?_ | refine SX.condT rfl ?_ | refine SX.condF rfl ?_ | (refine l_load ?_; (refine SXl.v (OpW.load 0 rfl rfl rfl) rfl ?_ ?_ ?_); rfl; rfl) | (refine l_fieldAddr ?_; (refine SXl.v (OpW.fieldAddr rfl) rfl ?_ ?_ ?_); rfl; rfl) | (refine l_assign ?_; (refine SXl.v (OpW.assign rfl) rfl ?_ ?_ ?_); rfl; rfl) | (refine l_eql ?_; (first | refine SXl.v (OpW.eqlT rfl rfl (by omega)) rfl ?_ ?_ ?_ | refine SXl.v (OpW.eqlF rfl rfl (by omega)) rfl ?_ ?_ ?_ | refine SXl.v (OpW.eql rfl rfl) rfl ?_ ?_ ?_); rfl; rfl) | (refine l_box ?_; refine SXl.box ?_ ?_ rfl rfl (fun g => ?_); rfl; rfl) | refine SX.ret ?_ | refine SQ.thenRet ?_ | refine SQ.blockRet ?_)
      refine SQ.body1 rfl rfl (fun w' hl => ⟨ret_bool hv.symm, hl.mod⟩)
    · by_cases k1 : v.kind = 1
      · have hv : valOk v = inB v.n (-1048576) 1048576 := (if_neg (by omega)).trans (if_pos k1)
        repeat (first | refine SX.seq ?_ | refine SXl.nil ?_ | refine SX.region ?_ | refine SQ.thenNormal ?_ | refine SX.block ?_ | refine SX.condT rfl ?_ | refine SX.condF rfl ?_ | (refine l_call ?_; (refine SXl.v (OpW.calls rfl (fun w _ => in_any _ _ _ _)) rfl ?_ ?_ ?_); rfl; rfl) | (refine l_load ?_; (refine SXl.v (OpW.load 0 rfl rfl rfl) rfl ?_ ?_ ?_); rfl; rfl) | (refine l_fieldAddr ?_; (refine SXl.v (OpW.fieldAddr rfl) rfl ?_ ?_ ?_); rfl; rfl) | (refine l_assign ?_; (refine SXl.v (OpW.assign rfl) rfl ?_ ?_ ?_); rfl; rfl) | (refine l_eql ?_; (first | refine SXl.v (OpW.eqlT rfl rfl (by omega)) rfl ?_ ?_ ?_ | refine SXl.v (OpW.eqlF rfl rfl (by omega)) rfl ?_ ?_ ?_); rfl; rfl) | (refine l_box ?_; refine SXl.box ?_ ?_ rfl rfl (fun g => ?_); rfl; rfl) | refine SX.ret ?_ | refine SQ.thenRet ?_ | refine SQ.blockRet ?_)
        refine SQ.body1 rfl rfl (fun w' hl => ⟨ret_bool hv.symm, hl.mod⟩)
      · by_cases k2 : v.kind = 2
        · have hv : valOk v = inB v.n (-1000) 1000 := (if_neg (by omega)).trans ((if_neg k1).trans (if_pos k2))
          repeat (first | refine SX.seq ?_ | refine SXl.nil ?_ | refine SX.region ?_ | refine SQ.thenNormal ?_ | refine SX.block ?_ | refine SX.condT rfl ?_ | refine SX.condF rfl ?_ | (refine l_call ?_; (refine SXl.v (OpW.calls rfl (fun w _ => in_any _ _ _ _)) rfl ?_ ?_ ?_); rfl; rfl) | (refine l_load ?_; (refine SXl.v (OpW.load 0 rfl rfl rfl) rfl ?_ ?_ ?_); rfl; rfl) | (refine l_fieldAddr ?_; (refine SXl.v (OpW.fieldAddr rfl) rfl ?_ ?_ ?_); rfl; rfl) | (refine l_assign ?_; (refine SXl.v (OpW.assign rfl) rfl ?_ ?_ ?_); rfl; rfl) | (refine l_eql ?_; (first | refine SXl.v (OpW.eqlT rfl rfl (by omega)) rfl ?_ ?_ ?_ | refine SXl.v (OpW.eqlF rfl rfl (by omega)) rfl ?_ ?_ ?_); rfl; rfl) | (refine l_box ?_; refine SXl.box ?_ ?_ rfl rfl (fun g => ?_); rfl; rfl) | refine SX.ret ?_ | refine SQ.thenRet ?_ | refine SQ.blockRet ?_)
          refine SQ.body1 rfl rfl (fun w' hl => ⟨ret_bool hv.symm, hl.mod⟩)
        · have hv : valOk v = false := (if_neg (by omega)).trans ((if_neg k1).trans (if_neg k2))
          repeat (first | refine SX.seq ?_ | refine SXl.nil ?_ | refine SX.region ?_ | refine SQ.thenNormal ?_ | refine SX.block ?_ | refine SX.skip ?_ | refine SX.condF rfl ?_ | (refine l_load ?_; (refine SXl.v (OpW.load 0 rfl rfl rfl) rfl ?_ ?_ ?_); rfl; rfl) | (refine l_fieldAddr ?_; (refine SXl.v (OpW.fieldAddr rfl) rfl ?_ ?_ ?_); rfl; rfl) | (refine l_assign ?_; (refine SXl.v (OpW.assign rfl) rfl ?_ ?_ ?_); rfl; rfl) | (refine l_eql ?_; (refine SXl.v (OpW.eqlF rfl rfl (by omega)) rfl ?_ ?_ ?_); rfl; rfl) | (refine l_box ?_; refine SXl.box ?_ ?_ rfl rfl (fun g => ?_); rfl; rfl) | refine SX.ret ?_ | refine SQ.blockNormal ?_)
          refine SQ.body1 rfl rfl (fun w' hl => ⟨ret_bool hv.symm, hl.mod⟩)

set_option maxRecDepth 100000 in
set_option maxHeartbeats 4000000 in
theorem sizeOk_any (v : Val) (w : World) : Calls Tryz.prog 50 #[.agg #[.int .i64 v.kind, .int .i64 v.n]] w fun e w' => e = .returned (.bool (sizeOk v)) ∧ Mod (fun _ => False) w w' := by
  refine calls_sx Tryz.func50 rfl rfl (fun a h1 h2 h3 => ((Fr.nil h1 h2).arg (h3 0 _ rfl))) ?_
  cases q0 : valOk v
  · have hv : sizeOk v = false := by simp [sizeOk, q0]
    repeat (first | refine SX.seq ?_ | refine SXl.nil ?_ | refine SX.region ?_ | refine SQ.thenNormal ?_ | (refine SXl.no rfl rfl rfl ?_) | (refine l_call ?_; (refine SXl.v (OpW.call rfl (fun w hl => valueOk_any v _)) rfl ?_ ?_ ?_); rfl; rfl) | (refine l_load ?_; (refine SXl.v (OpW.loadAll 0 rfl rfl rfl) rfl ?_ ?_ ?_); rfl; rfl) | (refine l_move ?_; (refine SXl.v (OpW.move rfl) rfl ?_ ?_ ?_); rfl; rfl) | (refine l_assign ?_; (refine SXl.v (OpW.assign rfl) rfl ?_ ?_ ?_); rfl; rfl) | (refine l_pick ?_; (refine SXl.v (OpW.pick rfl rfl rfl) rfl ?_ ?_ ?_); rfl; rfl) | (refine l_box ?_; refine SXl.box ?_ ?_ rfl rfl (fun g => ?_); rfl; rfl) | (rw [q0]) | refine SX.ret ?_)
    refine SQ.body1 rfl rfl (fun w' hl => ⟨ret_bool hv.symm, hl.mod⟩)
  · have hv : sizeOk v = decide (0 ≤ v.n) := by simp [sizeOk, q0]
    repeat (first | refine SX.seq ?_ | refine SXl.nil ?_ | refine SX.region ?_ | refine SQ.thenNormal ?_ | (refine l_call ?_; (refine SXl.v (OpW.call rfl (fun w hl => valueOk_any v _)) rfl ?_ ?_ ?_); rfl; rfl) | (refine l_load ?_; (first | refine SXl.v (OpW.load 0 rfl rfl rfl) rfl ?_ ?_ ?_ | refine SXl.v (OpW.loadAll 0 rfl rfl rfl) rfl ?_ ?_ ?_); rfl; rfl) | (refine l_fieldAddr ?_; (refine SXl.v (OpW.fieldAddr rfl) rfl ?_ ?_ ?_); rfl; rfl) | (refine l_move ?_; (refine SXl.v (OpW.move rfl) rfl ?_ ?_ ?_); rfl; rfl) | (refine l_assign ?_; (refine SXl.v (OpW.assign rfl) rfl ?_ ?_ ?_); rfl; rfl) | (refine l_geq ?_; (refine SXl.v (OpW.geq rfl rfl) rfl ?_ ?_ ?_); rfl; rfl) | (refine l_pick ?_; (refine SXl.v (OpW.pick rfl rfl rfl) rfl ?_ ?_ ?_); rfl; rfl) | (refine l_box ?_; refine SXl.box ?_ ?_ rfl rfl (fun g => ?_); rfl; rfl) | (rw [q0]) | refine SX.ret ?_)
    refine SQ.body1 rfl rfl (fun w' hl => ⟨ret_bool hv.symm, hl.mod⟩)

set_option maxRecDepth 100000 in
set_option maxHeartbeats 4000000 in
theorem edgesOk_any (x : Edges) (w : World) : Calls Tryz.prog 52 #[.agg #[.int .i64 x.left, .int .i64 x.top, .int .i64 x.right, .int .i64 x.bottom]] w fun e w' => e = .returned (.bool (edgesOk x)) ∧ Mod (fun _ => False) w w' := by
  refine calls_sx Tryz.func52 rfl rfl (fun a h1 h2 h3 => ((Fr.nil h1 h2).arg (h3 0 _ rfl))) ?_
  cases q0 : inB x.left 0 1048576
  · have hv : edgesOk x = false := by simp [edgesOk, q0]
    repeat (first | refine SX.seq ?_ | refine SXl.nil ?_ | refine SX.region ?_ | refine SQ.thenNormal ?_ | (refine SXl.no rfl rfl rfl ?_) | (refine l_call ?_; (refine SXl.v (OpW.calls rfl (fun w _ => in_any _ _ _ _)) rfl ?_ ?_ ?_); rfl; rfl) | (refine l_load ?_; (refine SXl.v (OpW.load 0 rfl rfl rfl) rfl ?_ ?_ ?_); rfl; rfl) | (refine l_fieldAddr ?_; (refine SXl.v (OpW.fieldAddr rfl) rfl ?_ ?_ ?_); rfl; rfl) | (refine l_move ?_; (refine SXl.v (OpW.move rfl) rfl ?_ ?_ ?_); rfl; rfl) | (refine l_assign ?_; (refine SXl.v (OpW.assign rfl) rfl ?_ ?_ ?_); rfl; rfl) | (refine l_pick ?_; (refine SXl.v (OpW.pick rfl rfl rfl) rfl ?_ ?_ ?_); rfl; rfl) | (refine l_box ?_; refine SXl.box ?_ ?_ rfl rfl (fun g => ?_); rfl; rfl) | (rw [q0]) | refine SX.ret ?_)
    refine SQ.body1 rfl rfl (fun w' hl => ⟨ret_bool hv.symm, hl.mod⟩)
  cases q1 : inB x.top 0 1048576
  · have hv : edgesOk x = false := by simp [edgesOk, q0, q1]
    repeat (first | refine SX.seq ?_ | refine SXl.nil ?_ | refine SX.region ?_ | refine SQ.thenNormal ?_ | (refine SXl.no rfl rfl rfl ?_) | (refine l_call ?_; (refine SXl.v (OpW.calls rfl (fun w _ => in_any _ _ _ _)) rfl ?_ ?_ ?_); rfl; rfl) | (refine l_load ?_; (refine SXl.v (OpW.load 0 rfl rfl rfl) rfl ?_ ?_ ?_); rfl; rfl) | (refine l_fieldAddr ?_; (refine SXl.v (OpW.fieldAddr rfl) rfl ?_ ?_ ?_); rfl; rfl) | (refine l_move ?_; (refine SXl.v (OpW.move rfl) rfl ?_ ?_ ?_); rfl; rfl) | (refine l_assign ?_; (refine SXl.v (OpW.assign rfl) rfl ?_ ?_ ?_); rfl; rfl) | (refine l_pick ?_; (refine SXl.v (OpW.pick rfl rfl rfl) rfl ?_ ?_ ?_); rfl; rfl) | (refine l_box ?_; refine SXl.box ?_ ?_ rfl rfl (fun g => ?_); rfl; rfl) | ((first | rw [q0] | rw [q1])) | refine SX.ret ?_)
    refine SQ.body1 rfl rfl (fun w' hl => ⟨ret_bool hv.symm, hl.mod⟩)
  cases q2 : inB x.right 0 1048576
  · have hv : edgesOk x = false := by simp [edgesOk, q0, q1, q2]
    repeat (first | refine SX.seq ?_ | refine SXl.nil ?_ | refine SX.region ?_ | refine SQ.thenNormal ?_ | (refine SXl.no rfl rfl rfl ?_) | (refine l_call ?_; (refine SXl.v (OpW.calls rfl (fun w _ => in_any _ _ _ _)) rfl ?_ ?_ ?_); rfl; rfl) | (refine l_load ?_; (refine SXl.v (OpW.load 0 rfl rfl rfl) rfl ?_ ?_ ?_); rfl; rfl) | (refine l_fieldAddr ?_; (refine SXl.v (OpW.fieldAddr rfl) rfl ?_ ?_ ?_); rfl; rfl) | (refine l_move ?_; (refine SXl.v (OpW.move rfl) rfl ?_ ?_ ?_); rfl; rfl) | (refine l_assign ?_; (refine SXl.v (OpW.assign rfl) rfl ?_ ?_ ?_); rfl; rfl) | (refine l_pick ?_; (refine SXl.v (OpW.pick rfl rfl rfl) rfl ?_ ?_ ?_); rfl; rfl) | (refine l_box ?_; refine SXl.box ?_ ?_ rfl rfl (fun g => ?_); rfl; rfl) | ((first | rw [q0] | rw [q1] | rw [q2])) | refine SX.ret ?_)
    refine SQ.body1 rfl rfl (fun w' hl => ⟨ret_bool hv.symm, hl.mod⟩)
  cases q3 : inB x.bottom 0 1048576
  · have hv : edgesOk x = false := by simp [edgesOk, q0, q1, q2, q3]
    repeat (first | refine SX.seq ?_ | refine SXl.nil ?_ | refine SX.region ?_ | refine SQ.thenNormal ?_ | (refine l_call ?_; (refine SXl.v (OpW.calls rfl (fun w _ => in_any _ _ _ _)) rfl ?_ ?_ ?_); rfl; rfl) | (refine l_load ?_; (refine SXl.v (OpW.load 0 rfl rfl rfl) rfl ?_ ?_ ?_); rfl; rfl) | (refine l_fieldAddr ?_; (refine SXl.v (OpW.fieldAddr rfl) rfl ?_ ?_ ?_); rfl; rfl) | (refine l_move ?_; (refine SXl.v (OpW.move rfl) rfl ?_ ?_ ?_); rfl; rfl) | (refine l_assign ?_; (refine SXl.v (OpW.assign rfl) rfl ?_ ?_ ?_); rfl; rfl) | (refine l_pick ?_; (refine SXl.v (OpW.pick rfl rfl rfl) rfl ?_ ?_ ?_); rfl; rfl) | (refine l_box ?_; refine SXl.box ?_ ?_ rfl rfl (fun g => ?_); rfl; rfl) | ((first | rw [q0] | rw [q1] | rw [q2] | rw [q3])) | refine SX.ret ?_)
    refine SQ.body1 rfl rfl (fun w' hl => ⟨ret_bool hv.symm, hl.mod⟩)
  have hv : edgesOk x = true := by simp [edgesOk, q0, q1, q2, q3]
  repeat (first | refine SX.seq ?_ | refine SXl.nil ?_ | refine SX.region ?_ | refine SQ.thenNormal ?_ | (refine l_call ?_; (refine SXl.v (OpW.calls rfl (fun w _ => in_any _ _ _ _)) rfl ?_ ?_ ?_); rfl; rfl) | (refine l_load ?_; (refine SXl.v (OpW.load 0 rfl rfl rfl) rfl ?_ ?_ ?_); rfl; rfl) | (refine l_fieldAddr ?_; (refine SXl.v (OpW.fieldAddr rfl) rfl ?_ ?_ ?_); rfl; rfl) | (refine l_move ?_; (refine SXl.v (OpW.move rfl) rfl ?_ ?_ ?_); rfl; rfl) | (refine l_assign ?_; (refine SXl.v (OpW.assign rfl) rfl ?_ ?_ ?_); rfl; rfl) | (refine l_pick ?_; (refine SXl.v (OpW.pick rfl rfl rfl) rfl ?_ ?_ ?_); rfl; rfl) | (refine l_box ?_; refine SXl.box ?_ ?_ rfl rfl (fun g => ?_); rfl; rfl) | ((first | rw [q0] | rw [q1] | rw [q2] | rw [q3])) | refine SX.ret ?_)
  refine SQ.body1 rfl rfl (fun w' hl => ⟨ret_bool hv.symm, hl.mod⟩)

set_option maxRecDepth 100000 in
set_option maxHeartbeats 4000000 in
theorem sidesOk_any (x : Sides) (w : World) : Calls Tryz.prog 51 #[.agg #[.int .i64 x.left.kind, .int .i64 x.left.n, .int .i64 x.top.kind, .int .i64 x.top.n, .int .i64 x.right.kind, .int .i64 x.right.n, .int .i64 x.bottom.kind, .int .i64 x.bottom.n, .int .i64 x.start.kind, .int .i64 x.start.n, .int .i64 x.stop.kind, .int .i64 x.stop.n]] w fun e w' => e = .returned (.bool (sidesOk x)) ∧ Mod (fun _ => False) w w' := by
  refine calls_sx Tryz.func51 rfl rfl (fun a h1 h2 h3 => ((Fr.nil h1 h2).arg (h3 0 _ rfl))) ?_
  cases q0 : valOk x.left
  · have hv : sidesOk x = false := by simp [sidesOk, q0]
    repeat (first | refine SX.seq ?_ | refine SXl.nil ?_ | refine SX.region ?_ | refine SQ.thenNormal ?_ | (refine SXl.no rfl rfl rfl ?_) | (refine l_call ?_; (refine SXl.v (OpW.call rfl (fun w hl => valueOk_any _ _)) rfl ?_ ?_ ?_); rfl; rfl) | (refine l_load ?_; (refine SXl.v (OpW.loadRow 0 rfl rfl rfl rfl) rfl ?_ ?_ ?_); rfl; rfl) | (refine l_fieldAddr ?_; (refine SXl.v (OpW.fieldAddr rfl) rfl ?_ ?_ ?_); rfl; rfl) | (refine l_move ?_; (refine SXl.v (OpW.move rfl) rfl ?_ ?_ ?_); rfl; rfl) | (refine l_assign ?_; (refine SXl.v (OpW.assign rfl) rfl ?_ ?_ ?_); rfl; rfl) | (refine l_pick ?_; (refine SXl.v (OpW.pick rfl rfl rfl) rfl ?_ ?_ ?_); rfl; rfl) | (refine l_box ?_; refine SXl.box ?_ ?_ rfl rfl (fun g => ?_); rfl; rfl) | (rw [q0]) | refine SX.ret ?_)
    refine SQ.body1 rfl rfl (fun w' hl => ⟨ret_bool hv.symm, hl.mod⟩)
  cases q1 : valOk x.top
  · have hv : sidesOk x = false := by simp [sidesOk, q0, q1]
    repeat (first | refine SX.seq ?_ | refine SXl.nil ?_ | refine SX.region ?_ | refine SQ.thenNormal ?_ | (refine SXl.no rfl rfl rfl ?_) | (refine l_call ?_; (refine SXl.v (OpW.call rfl (fun w hl => valueOk_any _ _)) rfl ?_ ?_ ?_); rfl; rfl) | (refine l_load ?_; (refine SXl.v (OpW.loadRow 0 rfl rfl rfl rfl) rfl ?_ ?_ ?_); rfl; rfl) | (refine l_fieldAddr ?_; (refine SXl.v (OpW.fieldAddr rfl) rfl ?_ ?_ ?_); rfl; rfl) | (refine l_move ?_; (refine SXl.v (OpW.move rfl) rfl ?_ ?_ ?_); rfl; rfl) | (refine l_assign ?_; (refine SXl.v (OpW.assign rfl) rfl ?_ ?_ ?_); rfl; rfl) | (refine l_pick ?_; (refine SXl.v (OpW.pick rfl rfl rfl) rfl ?_ ?_ ?_); rfl; rfl) | (refine l_box ?_; refine SXl.box ?_ ?_ rfl rfl (fun g => ?_); rfl; rfl) | ((first | rw [q0] | rw [q1])) | refine SX.ret ?_)
    refine SQ.body1 rfl rfl (fun w' hl => ⟨ret_bool hv.symm, hl.mod⟩)
  cases q2 : valOk x.right
  · have hv : sidesOk x = false := by simp [sidesOk, q0, q1, q2]
    repeat (first | refine SX.seq ?_ | refine SXl.nil ?_ | refine SX.region ?_ | refine SQ.thenNormal ?_ | (refine SXl.no rfl rfl rfl ?_) | (refine l_call ?_; (refine SXl.v (OpW.call rfl (fun w hl => valueOk_any _ _)) rfl ?_ ?_ ?_); rfl; rfl) | (refine l_load ?_; (refine SXl.v (OpW.loadRow 0 rfl rfl rfl rfl) rfl ?_ ?_ ?_); rfl; rfl) | (refine l_fieldAddr ?_; (refine SXl.v (OpW.fieldAddr rfl) rfl ?_ ?_ ?_); rfl; rfl) | (refine l_move ?_; (refine SXl.v (OpW.move rfl) rfl ?_ ?_ ?_); rfl; rfl) | (refine l_assign ?_; (refine SXl.v (OpW.assign rfl) rfl ?_ ?_ ?_); rfl; rfl) | (refine l_pick ?_; (refine SXl.v (OpW.pick rfl rfl rfl) rfl ?_ ?_ ?_); rfl; rfl) | (refine l_box ?_; refine SXl.box ?_ ?_ rfl rfl (fun g => ?_); rfl; rfl) | ((first | rw [q0] | rw [q1] | rw [q2])) | refine SX.ret ?_)
    refine SQ.body1 rfl rfl (fun w' hl => ⟨ret_bool hv.symm, hl.mod⟩)
  cases q3 : valOk x.bottom
  · have hv : sidesOk x = false := by simp [sidesOk, q0, q1, q2, q3]
    repeat (first | refine SX.seq ?_ | refine SXl.nil ?_ | refine SX.region ?_ | refine SQ.thenNormal ?_ | (refine SXl.no rfl rfl rfl ?_) | (refine l_call ?_; (refine SXl.v (OpW.call rfl (fun w hl => valueOk_any _ _)) rfl ?_ ?_ ?_); rfl; rfl) | (refine l_load ?_; (refine SXl.v (OpW.loadRow 0 rfl rfl rfl rfl) rfl ?_ ?_ ?_); rfl; rfl) | (refine l_fieldAddr ?_; (refine SXl.v (OpW.fieldAddr rfl) rfl ?_ ?_ ?_); rfl; rfl) | (refine l_move ?_; (refine SXl.v (OpW.move rfl) rfl ?_ ?_ ?_); rfl; rfl) | (refine l_assign ?_; (refine SXl.v (OpW.assign rfl) rfl ?_ ?_ ?_); rfl; rfl) | (refine l_pick ?_; (refine SXl.v (OpW.pick rfl rfl rfl) rfl ?_ ?_ ?_); rfl; rfl) | (refine l_box ?_; refine SXl.box ?_ ?_ rfl rfl (fun g => ?_); rfl; rfl) | ((first | rw [q0] | rw [q1] | rw [q2] | rw [q3])) | refine SX.ret ?_)
    refine SQ.body1 rfl rfl (fun w' hl => ⟨ret_bool hv.symm, hl.mod⟩)
  cases q4 : valOk x.start
  · have hv : sidesOk x = false := by simp [sidesOk, q0, q1, q2, q3, q4]
    repeat (first | refine SX.seq ?_ | refine SXl.nil ?_ | refine SX.region ?_ | refine SQ.thenNormal ?_ | (refine SXl.no rfl rfl rfl ?_) | (refine l_call ?_; (refine SXl.v (OpW.call rfl (fun w hl => valueOk_any _ _)) rfl ?_ ?_ ?_); rfl; rfl) | (refine l_load ?_; (refine SXl.v (OpW.loadRow 0 rfl rfl rfl rfl) rfl ?_ ?_ ?_); rfl; rfl) | (refine l_fieldAddr ?_; (refine SXl.v (OpW.fieldAddr rfl) rfl ?_ ?_ ?_); rfl; rfl) | (refine l_move ?_; (refine SXl.v (OpW.move rfl) rfl ?_ ?_ ?_); rfl; rfl) | (refine l_assign ?_; (refine SXl.v (OpW.assign rfl) rfl ?_ ?_ ?_); rfl; rfl) | (refine l_pick ?_; (refine SXl.v (OpW.pick rfl rfl rfl) rfl ?_ ?_ ?_); rfl; rfl) | (refine l_box ?_; refine SXl.box ?_ ?_ rfl rfl (fun g => ?_); rfl; rfl) | ((first | rw [q0] | rw [q1] | rw [q2] | rw [q3] | rw [q4])) | refine SX.ret ?_)
    refine SQ.body1 rfl rfl (fun w' hl => ⟨ret_bool hv.symm, hl.mod⟩)
  cases q5 : valOk x.stop
  · have hv : sidesOk x = false := by simp [sidesOk, q0, q1, q2, q3, q4, q5]
    repeat (first | refine SX.seq ?_ | refine SXl.nil ?_ | refine SX.region ?_ | refine SQ.thenNormal ?_ | (refine l_call ?_; (refine SXl.v (OpW.call rfl (fun w hl => valueOk_any _ _)) rfl ?_ ?_ ?_); rfl; rfl) | (refine l_load ?_; (refine SXl.v (OpW.loadRow 0 rfl rfl rfl rfl) rfl ?_ ?_ ?_); rfl; rfl) | (refine l_fieldAddr ?_; (refine SXl.v (OpW.fieldAddr rfl) rfl ?_ ?_ ?_); rfl; rfl) | (refine l_move ?_; (refine SXl.v (OpW.move rfl) rfl ?_ ?_ ?_); rfl; rfl) | (refine l_assign ?_; (refine SXl.v (OpW.assign rfl) rfl ?_ ?_ ?_); rfl; rfl) | (refine l_pick ?_; (refine SXl.v (OpW.pick rfl rfl rfl) rfl ?_ ?_ ?_); rfl; rfl) | (refine l_box ?_; refine SXl.box ?_ ?_ rfl rfl (fun g => ?_); rfl; rfl) | ((first | rw [q0] | rw [q1] | rw [q2] | rw [q3] | rw [q4] | rw [q5])) | refine SX.ret ?_)
    refine SQ.body1 rfl rfl (fun w' hl => ⟨ret_bool hv.symm, hl.mod⟩)
  have hv : sidesOk x = true := by simp [sidesOk, q0, q1, q2, q3, q4, q5]
  repeat (first | refine SX.seq ?_ | refine SXl.nil ?_ | refine SX.region ?_ | refine SQ.thenNormal ?_ | (refine l_call ?_; (refine SXl.v (OpW.call rfl (fun w hl => valueOk_any _ _)) rfl ?_ ?_ ?_); rfl; rfl) | (refine l_load ?_; (refine SXl.v (OpW.loadRow 0 rfl rfl rfl rfl) rfl ?_ ?_ ?_); rfl; rfl) | (refine l_fieldAddr ?_; (refine SXl.v (OpW.fieldAddr rfl) rfl ?_ ?_ ?_); rfl; rfl) | (refine l_move ?_; (refine SXl.v (OpW.move rfl) rfl ?_ ?_ ?_); rfl; rfl) | (refine l_assign ?_; (refine SXl.v (OpW.assign rfl) rfl ?_ ?_ ?_); rfl; rfl) | (refine l_pick ?_; (refine SXl.v (OpW.pick rfl rfl rfl) rfl ?_ ?_ ?_); rfl; rfl) | (refine l_box ?_; refine SXl.box ?_ ?_ rfl rfl (fun g => ?_); rfl; rfl) | ((first | rw [q0] | rw [q1] | rw [q2] | rw [q3] | rw [q4] | rw [q5])) | refine SX.ret ?_)
  refine SQ.body1 rfl rfl (fun w' hl => ⟨ret_bool hv.symm, hl.mod⟩)

set_option maxRecDepth 100000 in
set_option maxHeartbeats 4000000 in
theorem svalueOk_any (v : Val) (w : World) : Calls Tryz.prog 39 #[.agg #[.int .i64 v.kind, .int .i64 v.n]] w fun e w' => e = .returned (.bool (valOk v)) ∧ Mod (fun _ => False) w w' := by
  refine calls_sx Tryz.func39 rfl rfl (fun a h1 h2 h3 => ((Fr.nil h1 h2).arg (h3 0 _ rfl))) ?_
  by_cases k0 : v.kind = 0
  · have hv : valOk v = decide (v.n = 0) := if_pos (.inl k0)
    repeat (first | refine SX.seq ?_ | refine SXl.nil ?_ | refine SX.region ?_ | refine SQ.thenNormal ?_ | refine SX.block ?_ | refine SX.skip ?_ | refine SX.condT rfl ?_ | (refine l_load ?_; (refine SXl.v (OpW.load 0 rfl rfl rfl) rfl ?_ ?_ ?_); rfl; rfl) | (refine l_fieldAddr ?_; (refine SXl.v (OpW.fieldAddr rfl) rfl ?_ ?_ ?_); rfl; rfl) | (refine l_assign ?_; (refine SXl.v (OpW.assign rfl) rfl ?_ ?_ ?_); rfl; rfl) | (refine l_eql ?_; (first | refine SXl.v (OpW.eqlT rfl rfl (by omega)) rfl ?_ ?_ ?_ | refine SXl.v (OpW.eql rfl rfl) rfl ?_ ?_ ?_); rfl; rfl) | (refine l_box ?_; refine SXl.box ?_ ?_ rfl rfl (fun g => ?_); rfl; rfl) | refine SX.ret ?_ | refine SQ.thenRet ?_ | refine SQ.blockRet ?_)
    refine SQ.body1 rfl rfl (fun w' hl => ⟨ret_bool hv.symm, hl.mod⟩)
  · by_cases k3 : v.kind = 3
    · have hv : valOk v = decide (v.n = 0) := if_pos (.inr k3)
      repeat (first | refine SX.seq ?_ | refine SXl.nil ?_ | refine SX.region ?_ | refine SQ.thenNormal ?_ | refine SX.block ?_ | refine SX.condT rfl ?_ | refine SX.condF rfl ?_ | (refine l_load ?_; (refine SXl.v (OpW.load 0 rfl rfl rfl) rfl ?_ ?_ ?_); rfl; rfl) | (refine l_fieldAddr ?_; (refine SXl.v (OpW.fieldAddr rfl) rfl ?_ ?_ ?_); rfl; rfl) | (refine l_assign ?_; (refine SXl.v (OpW.assign rfl) rfl ?_ ?_ ?_); rfl; rfl) | (refine l_eql ?_; (first | refine SXl.v (OpW.eqlT rfl rfl (by omega)) rfl ?_ ?_ ?_ | refine SXl.v (OpW.eqlF rfl rfl (by omega)) rfl ?_ ?_ ?_ | refine SXl.v (OpW.eql rfl rfl) rfl ?_ ?_ ?_); rfl; rfl) | (refine l_box ?_; refine SXl.box ?_ ?_ rfl rfl (fun g => ?_); rfl; rfl) | refine SX.ret ?_ | refine SQ.thenRet ?_ | refine SQ.blockRet ?_)
      refine SQ.body1 rfl rfl (fun w' hl => ⟨ret_bool hv.symm, hl.mod⟩)
    · by_cases k1 : v.kind = 1
      · have hv : valOk v = inB v.n (-1048576) 1048576 := (if_neg (by omega)).trans (if_pos k1)
        repeat (first | refine SX.seq ?_ | refine SXl.nil ?_ | refine SX.region ?_ | refine SQ.thenNormal ?_ | refine SX.block ?_ | refine SX.condT rfl ?_ | refine SX.condF rfl ?_ | (refine l_call ?_; (refine SXl.v (OpW.calls rfl (fun w _ => l01In_any _ _ _ _)) rfl ?_ ?_ ?_); rfl; rfl) | (refine l_load ?_; (refine SXl.v (OpW.load 0 rfl rfl rfl) rfl ?_ ?_ ?_); rfl; rfl) | (refine l_fieldAddr ?_; (refine SXl.v (OpW.fieldAddr rfl) rfl ?_ ?_ ?_); rfl; rfl) | (refine l_assign ?_; (refine SXl.v (OpW.assign rfl) rfl ?_ ?_ ?_); rfl; rfl) | (refine l_eql ?_; (first | refine SXl.v (OpW.eqlT rfl rfl (by omega)) rfl ?_ ?_ ?_ | refine SXl.v (OpW.eqlF rfl rfl (by omega)) rfl ?_ ?_ ?_); rfl; rfl) | (refine l_box ?_; refine SXl.box ?_ ?_ rfl rfl (fun g => ?_); rfl; rfl) | refine SX.ret ?_ | refine SQ.thenRet ?_ | refine SQ.blockRet ?_)
        refine SQ.body1 rfl rfl (fun w' hl => ⟨ret_bool hv.symm, hl.mod⟩)
      · by_cases k2 : v.kind = 2
        · have hv : valOk v = inB v.n (-1000) 1000 := (if_neg (by omega)).trans ((if_neg k1).trans (if_pos k2))
          repeat (first | refine SX.seq ?_ | refine SXl.nil ?_ | refine SX.region ?_ | refine SQ.thenNormal ?_ | refine SX.block ?_ | refine SX.condT rfl ?_ | refine SX.condF rfl ?_ | (refine l_call ?_; (refine SXl.v (OpW.calls rfl (fun w _ => l01In_any _ _ _ _)) rfl ?_ ?_ ?_); rfl; rfl) | (refine l_load ?_; (refine SXl.v (OpW.load 0 rfl rfl rfl) rfl ?_ ?_ ?_); rfl; rfl) | (refine l_fieldAddr ?_; (refine SXl.v (OpW.fieldAddr rfl) rfl ?_ ?_ ?_); rfl; rfl) | (refine l_assign ?_; (refine SXl.v (OpW.assign rfl) rfl ?_ ?_ ?_); rfl; rfl) | (refine l_eql ?_; (first | refine SXl.v (OpW.eqlT rfl rfl (by omega)) rfl ?_ ?_ ?_ | refine SXl.v (OpW.eqlF rfl rfl (by omega)) rfl ?_ ?_ ?_); rfl; rfl) | (refine l_box ?_; refine SXl.box ?_ ?_ rfl rfl (fun g => ?_); rfl; rfl) | refine SX.ret ?_ | refine SQ.thenRet ?_ | refine SQ.blockRet ?_)
          refine SQ.body1 rfl rfl (fun w' hl => ⟨ret_bool hv.symm, hl.mod⟩)
        · have hv : valOk v = false := (if_neg (by omega)).trans ((if_neg k1).trans (if_neg k2))
          repeat (first | refine SX.seq ?_ | refine SXl.nil ?_ | refine SX.region ?_ | refine SQ.thenNormal ?_ | refine SX.block ?_ | refine SX.skip ?_ | refine SX.condF rfl ?_ | (refine l_load ?_; (refine SXl.v (OpW.load 0 rfl rfl rfl) rfl ?_ ?_ ?_); rfl; rfl) | (refine l_fieldAddr ?_; (refine SXl.v (OpW.fieldAddr rfl) rfl ?_ ?_ ?_); rfl; rfl) | (refine l_assign ?_; (refine SXl.v (OpW.assign rfl) rfl ?_ ?_ ?_); rfl; rfl) | (refine l_eql ?_; (refine SXl.v (OpW.eqlF rfl rfl (by omega)) rfl ?_ ?_ ?_); rfl; rfl) | (refine l_box ?_; refine SXl.box ?_ ?_ rfl rfl (fun g => ?_); rfl; rfl) | refine SX.ret ?_ | refine SQ.blockNormal ?_)
          refine SQ.body1 rfl rfl (fun w' hl => ⟨ret_bool hv.symm, hl.mod⟩)

set_option maxRecDepth 100000 in
set_option maxHeartbeats 4000000 in
theorem ssizeOk_any (v : Val) (w : World) : Calls Tryz.prog 18 #[.agg #[.int .i64 v.kind, .int .i64 v.n]] w fun e w' => e = .returned (.bool (sizeOk v)) ∧ Mod (fun _ => False) w w' := by
  refine calls_sx Tryz.func18 rfl rfl (fun a h1 h2 h3 => ((Fr.nil h1 h2).arg (h3 0 _ rfl))) ?_
  cases q0 : valOk v
  · have hv : sizeOk v = false := by simp [sizeOk, q0]
    repeat (first | refine SX.seq ?_ | refine SXl.nil ?_ | refine SX.region ?_ | refine SQ.thenNormal ?_ | (refine SXl.no rfl rfl rfl ?_) | (refine l_call ?_; (refine SXl.v (OpW.call rfl (fun w hl => svalueOk_any v _)) rfl ?_ ?_ ?_); rfl; rfl) | (refine l_load ?_; (refine SXl.v (OpW.loadAll 0 rfl rfl rfl) rfl ?_ ?_ ?_); rfl; rfl) | (refine l_move ?_; (refine SXl.v (OpW.move rfl) rfl ?_ ?_ ?_); rfl; rfl) | (refine l_assign ?_; (refine SXl.v (OpW.assign rfl) rfl ?_ ?_ ?_); rfl; rfl) | (refine l_pick ?_; (refine SXl.v (OpW.pick rfl rfl rfl) rfl ?_ ?_ ?_); rfl; rfl) | (refine l_box ?_; refine SXl.box ?_ ?_ rfl rfl (fun g => ?_); rfl; rfl) | (rw [q0]) | refine SX.ret ?_)
    refine SQ.body1 rfl rfl (fun w' hl => ⟨ret_bool hv.symm, hl.mod⟩)
  · have hv : sizeOk v = decide (0 ≤ v.n) := by simp [sizeOk, q0]
    repeat (first | refine SX.seq ?_ | refine SXl.nil ?_ | refine SX.region ?_ | refine SQ.thenNormal ?_ | (refine l_call ?_; (refine SXl.v (OpW.call rfl (fun w hl => svalueOk_any v _)) rfl ?_ ?_ ?_); rfl; rfl) | (refine l_load ?_; (first | refine SXl.v (OpW.load 0 rfl rfl rfl) rfl ?_ ?_ ?_ | refine SXl.v (OpW.loadAll 0 rfl rfl rfl) rfl ?_ ?_ ?_); rfl; rfl) | (refine l_fieldAddr ?_; (refine SXl.v (OpW.fieldAddr rfl) rfl ?_ ?_ ?_); rfl; rfl) | (refine l_move ?_; (refine SXl.v (OpW.move rfl) rfl ?_ ?_ ?_); rfl; rfl) | (refine l_assign ?_; (refine SXl.v (OpW.assign rfl) rfl ?_ ?_ ?_); rfl; rfl) | (refine l_geq ?_; (refine SXl.v (OpW.geq rfl rfl) rfl ?_ ?_ ?_); rfl; rfl) | (refine l_pick ?_; (refine SXl.v (OpW.pick rfl rfl rfl) rfl ?_ ?_ ?_); rfl; rfl) | (refine l_box ?_; refine SXl.box ?_ ?_ rfl rfl (fun g => ?_); rfl; rfl) | (rw [q0]) | refine SX.ret ?_)
    refine SQ.body1 rfl rfl (fun w' hl => ⟨ret_bool hv.symm, hl.mod⟩)

set_option maxRecDepth 100000 in
set_option maxHeartbeats 4000000 in
theorem sedgesOk_any (x : Edges) (w : World) : Calls Tryz.prog 20 #[.agg #[.int .i64 x.left, .int .i64 x.top, .int .i64 x.right, .int .i64 x.bottom]] w fun e w' => e = .returned (.bool (edgesOk x)) ∧ Mod (fun _ => False) w w' := by
  refine calls_sx Tryz.func20 rfl rfl (fun a h1 h2 h3 => ((Fr.nil h1 h2).arg (h3 0 _ rfl))) ?_
  cases q0 : inB x.left 0 1048576
  · have hv : edgesOk x = false := by simp [edgesOk, q0]
    repeat (first | refine SX.seq ?_ | refine SXl.nil ?_ | refine SX.region ?_ | refine SQ.thenNormal ?_ | (refine SXl.no rfl rfl rfl ?_) | (refine l_call ?_; (refine SXl.v (OpW.calls rfl (fun w _ => l01In_any _ _ _ _)) rfl ?_ ?_ ?_); rfl; rfl) | (refine l_load ?_; (refine SXl.v (OpW.load 0 rfl rfl rfl) rfl ?_ ?_ ?_); rfl; rfl) | (refine l_fieldAddr ?_; (refine SXl.v (OpW.fieldAddr rfl) rfl ?_ ?_ ?_); rfl; rfl) | (refine l_move ?_; (refine SXl.v (OpW.move rfl) rfl ?_ ?_ ?_); rfl; rfl) | (refine l_assign ?_; (refine SXl.v (OpW.assign rfl) rfl ?_ ?_ ?_); rfl; rfl) | (refine l_pick ?_; (refine SXl.v (OpW.pick rfl rfl rfl) rfl ?_ ?_ ?_); rfl; rfl) | (refine l_box ?_; refine SXl.box ?_ ?_ rfl rfl (fun g => ?_); rfl; rfl) | (rw [q0]) | refine SX.ret ?_)
    refine SQ.body1 rfl rfl (fun w' hl => ⟨ret_bool hv.symm, hl.mod⟩)
  cases q1 : inB x.top 0 1048576
  · have hv : edgesOk x = false := by simp [edgesOk, q0, q1]
    repeat (first | refine SX.seq ?_ | refine SXl.nil ?_ | refine SX.region ?_ | refine SQ.thenNormal ?_ | (refine SXl.no rfl rfl rfl ?_) | (refine l_call ?_; (refine SXl.v (OpW.calls rfl (fun w _ => l01In_any _ _ _ _)) rfl ?_ ?_ ?_); rfl; rfl) | (refine l_load ?_; (refine SXl.v (OpW.load 0 rfl rfl rfl) rfl ?_ ?_ ?_); rfl; rfl) | (refine l_fieldAddr ?_; (refine SXl.v (OpW.fieldAddr rfl) rfl ?_ ?_ ?_); rfl; rfl) | (refine l_move ?_; (refine SXl.v (OpW.move rfl) rfl ?_ ?_ ?_); rfl; rfl) | (refine l_assign ?_; (refine SXl.v (OpW.assign rfl) rfl ?_ ?_ ?_); rfl; rfl) | (refine l_pick ?_; (refine SXl.v (OpW.pick rfl rfl rfl) rfl ?_ ?_ ?_); rfl; rfl) | (refine l_box ?_; refine SXl.box ?_ ?_ rfl rfl (fun g => ?_); rfl; rfl) | ((first | rw [q0] | rw [q1])) | refine SX.ret ?_)
    refine SQ.body1 rfl rfl (fun w' hl => ⟨ret_bool hv.symm, hl.mod⟩)
  cases q2 : inB x.right 0 1048576
  · have hv : edgesOk x = false := by simp [edgesOk, q0, q1, q2]
    repeat (first | refine SX.seq ?_ | refine SXl.nil ?_ | refine SX.region ?_ | refine SQ.thenNormal ?_ | (refine SXl.no rfl rfl rfl ?_) | (refine l_call ?_; (refine SXl.v (OpW.calls rfl (fun w _ => l01In_any _ _ _ _)) rfl ?_ ?_ ?_); rfl; rfl) | (refine l_load ?_; (refine SXl.v (OpW.load 0 rfl rfl rfl) rfl ?_ ?_ ?_); rfl; rfl) | (refine l_fieldAddr ?_; (refine SXl.v (OpW.fieldAddr rfl) rfl ?_ ?_ ?_); rfl; rfl) | (refine l_move ?_; (refine SXl.v (OpW.move rfl) rfl ?_ ?_ ?_); rfl; rfl) | (refine l_assign ?_; (refine SXl.v (OpW.assign rfl) rfl ?_ ?_ ?_); rfl; rfl) | (refine l_pick ?_; (refine SXl.v (OpW.pick rfl rfl rfl) rfl ?_ ?_ ?_); rfl; rfl) | (refine l_box ?_; refine SXl.box ?_ ?_ rfl rfl (fun g => ?_); rfl; rfl) | ((first | rw [q0] | rw [q1] | rw [q2])) | refine SX.ret ?_)
    refine SQ.body1 rfl rfl (fun w' hl => ⟨ret_bool hv.symm, hl.mod⟩)
  cases q3 : inB x.bottom 0 1048576
  · have hv : edgesOk x = false := by simp [edgesOk, q0, q1, q2, q3]
    repeat (first | refine SX.seq ?_ | refine SXl.nil ?_ | refine SX.region ?_ | refine SQ.thenNormal ?_ | (refine l_call ?_; (refine SXl.v (OpW.calls rfl (fun w _ => l01In_any _ _ _ _)) rfl ?_ ?_ ?_); rfl; rfl) | (refine l_load ?_; (refine SXl.v (OpW.load 0 rfl rfl rfl) rfl ?_ ?_ ?_); rfl; rfl) | (refine l_fieldAddr ?_; (refine SXl.v (OpW.fieldAddr rfl) rfl ?_ ?_ ?_); rfl; rfl) | (refine l_move ?_; (refine SXl.v (OpW.move rfl) rfl ?_ ?_ ?_); rfl; rfl) | (refine l_assign ?_; (refine SXl.v (OpW.assign rfl) rfl ?_ ?_ ?_); rfl; rfl) | (refine l_pick ?_; (refine SXl.v (OpW.pick rfl rfl rfl) rfl ?_ ?_ ?_); rfl; rfl) | (refine l_box ?_; refine SXl.box ?_ ?_ rfl rfl (fun g => ?_); rfl; rfl) | ((first | rw [q0] | rw [q1] | rw [q2] | rw [q3])) | refine SX.ret ?_)
    refine SQ.body1 rfl rfl (fun w' hl => ⟨ret_bool hv.symm, hl.mod⟩)
  have hv : edgesOk x = true := by simp [edgesOk, q0, q1, q2, q3]
  repeat (first | refine SX.seq ?_ | refine SXl.nil ?_ | refine SX.region ?_ | refine SQ.thenNormal ?_ | (refine l_call ?_; (refine SXl.v (OpW.calls rfl (fun w _ => l01In_any _ _ _ _)) rfl ?_ ?_ ?_); rfl; rfl) | (refine l_load ?_; (refine SXl.v (OpW.load 0 rfl rfl rfl) rfl ?_ ?_ ?_); rfl; rfl) | (refine l_fieldAddr ?_; (refine SXl.v (OpW.fieldAddr rfl) rfl ?_ ?_ ?_); rfl; rfl) | (refine l_move ?_; (refine SXl.v (OpW.move rfl) rfl ?_ ?_ ?_); rfl; rfl) | (refine l_assign ?_; (refine SXl.v (OpW.assign rfl) rfl ?_ ?_ ?_); rfl; rfl) | (refine l_pick ?_; (refine SXl.v (OpW.pick rfl rfl rfl) rfl ?_ ?_ ?_); rfl; rfl) | (refine l_box ?_; refine SXl.box ?_ ?_ rfl rfl (fun g => ?_); rfl; rfl) | ((first | rw [q0] | rw [q1] | rw [q2] | rw [q3])) | refine SX.ret ?_)
  refine SQ.body1 rfl rfl (fun w' hl => ⟨ret_bool hv.symm, hl.mod⟩)

set_option maxRecDepth 100000 in
set_option maxHeartbeats 4000000 in
theorem ssidesOk_any (x : Sides) (w : World) : Calls Tryz.prog 19 #[.agg #[.int .i64 x.left.kind, .int .i64 x.left.n, .int .i64 x.top.kind, .int .i64 x.top.n, .int .i64 x.right.kind, .int .i64 x.right.n, .int .i64 x.bottom.kind, .int .i64 x.bottom.n, .int .i64 x.start.kind, .int .i64 x.start.n, .int .i64 x.stop.kind, .int .i64 x.stop.n]] w fun e w' => e = .returned (.bool (sidesOk x)) ∧ Mod (fun _ => False) w w' := by
  refine calls_sx Tryz.func19 rfl rfl (fun a h1 h2 h3 => ((Fr.nil h1 h2).arg (h3 0 _ rfl))) ?_
  cases q0 : valOk x.left
  · have hv : sidesOk x = false := by simp [sidesOk, q0]
    repeat (first | refine SX.seq ?_ | refine SXl.nil ?_ | refine SX.region ?_ | refine SQ.thenNormal ?_ | (refine SXl.no rfl rfl rfl ?_) | (refine l_call ?_; (refine SXl.v (OpW.call rfl (fun w hl => svalueOk_any _ _)) rfl ?_ ?_ ?_); rfl; rfl) | (refine l_load ?_; (refine SXl.v (OpW.loadRow 0 rfl rfl rfl rfl) rfl ?_ ?_ ?_); rfl; rfl) | (refine l_fieldAddr ?_; (refine SXl.v (OpW.fieldAddr rfl) rfl ?_ ?_ ?_); rfl; rfl) | (refine l_move ?_; (refine SXl.v (OpW.move rfl) rfl ?_ ?_ ?_); rfl; rfl) | (refine l_assign ?_; (refine SXl.v (OpW.assign rfl) rfl ?_ ?_ ?_); rfl; rfl) | (refine l_pick ?_; (refine SXl.v (OpW.pick rfl rfl rfl) rfl ?_ ?_ ?_); rfl; rfl) | (refine l_box ?_; refine SXl.box ?_ ?_ rfl rfl (fun g => ?_); rfl; rfl) | (rw [q0]) | refine SX.ret ?_)
    refine SQ.body1 rfl rfl (fun w' hl => ⟨ret_bool hv.symm, hl.mod⟩)
  cases q1 : valOk x.top
  · have hv : sidesOk x = false := by simp [sidesOk, q0, q1]
    repeat (first | refine SX.seq ?_ | refine SXl.nil ?_ | refine SX.region ?_ | refine SQ.thenNormal ?_ | (refine SXl.no rfl rfl rfl ?_) | (refine l_call ?_; (refine SXl.v (OpW.call rfl (fun w hl => svalueOk_any _ _)) rfl ?_ ?_ ?_); rfl; rfl) | (refine l_load ?_; (refine SXl.v (OpW.loadRow 0 rfl rfl rfl rfl) rfl ?_ ?_ ?_); rfl; rfl) | (refine l_fieldAddr ?_; (refine SXl.v (OpW.fieldAddr rfl) rfl ?_ ?_ ?_); rfl; rfl) | (refine l_move ?_; (refine SXl.v (OpW.move rfl) rfl ?_ ?_ ?_); rfl; rfl) | (refine l_assign ?_; (refine SXl.v (OpW.assign rfl) rfl ?_ ?_ ?_); rfl; rfl) | (refine l_pick ?_; (refine SXl.v (OpW.pick rfl rfl rfl) rfl ?_ ?_ ?_); rfl; rfl) | (refine l_box ?_; refine SXl.box ?_ ?_ rfl rfl (fun g => ?_); rfl; rfl) | ((first | rw [q0] | rw [q1])) | refine SX.ret ?_)
    refine SQ.body1 rfl rfl (fun w' hl => ⟨ret_bool hv.symm, hl.mod⟩)
  cases q2 : valOk x.right
  · have hv : sidesOk x = false := by simp [sidesOk, q0, q1, q2]
    repeat (first | refine SX.seq ?_ | refine SXl.nil ?_ | refine SX.region ?_ | refine SQ.thenNormal ?_ | (refine SXl.no rfl rfl rfl ?_) | (refine l_call ?_; (refine SXl.v (OpW.call rfl (fun w hl => svalueOk_any _ _)) rfl ?_ ?_ ?_); rfl; rfl) | (refine l_load ?_; (refine SXl.v (OpW.loadRow 0 rfl rfl rfl rfl) rfl ?_ ?_ ?_); rfl; rfl) | (refine l_fieldAddr ?_; (refine SXl.v (OpW.fieldAddr rfl) rfl ?_ ?_ ?_); rfl; rfl) | (refine l_move ?_; (refine SXl.v (OpW.move rfl) rfl ?_ ?_ ?_); rfl; rfl) | (refine l_assign ?_; (refine SXl.v (OpW.assign rfl) rfl ?_ ?_ ?_); rfl; rfl) | (refine l_pick ?_; (refine SXl.v (OpW.pick rfl rfl rfl) rfl ?_ ?_ ?_); rfl; rfl) | (refine l_box ?_; refine SXl.box ?_ ?_ rfl rfl (fun g => ?_); rfl; rfl) | ((first | rw [q0] | rw [q1] | rw [q2])) | refine SX.ret ?_)
    refine SQ.body1 rfl rfl (fun w' hl => ⟨ret_bool hv.symm, hl.mod⟩)
  cases q3 : valOk x.bottom
  · have hv : sidesOk x = false := by simp [sidesOk, q0, q1, q2, q3]
    repeat (first | refine SX.seq ?_ | refine SXl.nil ?_ | refine SX.region ?_ | refine SQ.thenNormal ?_ | (refine SXl.no rfl rfl rfl ?_) | (refine l_call ?_; (refine SXl.v (OpW.call rfl (fun w hl => svalueOk_any _ _)) rfl ?_ ?_ ?_); rfl; rfl) | (refine l_load ?_; (refine SXl.v (OpW.loadRow 0 rfl rfl rfl rfl) rfl ?_ ?_ ?_); rfl; rfl) | (refine l_fieldAddr ?_; (refine SXl.v (OpW.fieldAddr rfl) rfl ?_ ?_ ?_); rfl; rfl) | (refine l_move ?_; (refine SXl.v (OpW.move rfl) rfl ?_ ?_ ?_); rfl; rfl) | (refine l_assign ?_; (refine SXl.v (OpW.assign rfl) rfl ?_ ?_ ?_); rfl; rfl) | (refine l_pick ?_; (refine SXl.v (OpW.pick rfl rfl rfl) rfl ?_ ?_ ?_); rfl; rfl) | (refine l_box ?_; refine SXl.box ?_ ?_ rfl rfl (fun g => ?_); rfl; rfl) | ((first | rw [q0] | rw [q1] | rw [q2] | rw [q3])) | refine SX.ret ?_)
    refine SQ.body1 rfl rfl (fun w' hl => ⟨ret_bool hv.symm, hl.mod⟩)
  cases q4 : valOk x.start
  · have hv : sidesOk x = false := by simp [sidesOk, q0, q1, q2, q3, q4]
    repeat (first | refine SX.seq ?_ | refine SXl.nil ?_ | refine SX.region ?_ | refine SQ.thenNormal ?_ | (refine SXl.no rfl rfl rfl ?_) | (refine l_call ?_; (refine SXl.v (OpW.call rfl (fun w hl => svalueOk_any _ _)) rfl ?_ ?_ ?_); rfl; rfl) | (refine l_load ?_; (refine SXl.v (OpW.loadRow 0 rfl rfl rfl rfl) rfl ?_ ?_ ?_); rfl; rfl) | (refine l_fieldAddr ?_; (refine SXl.v (OpW.fieldAddr rfl) rfl ?_ ?_ ?_); rfl; rfl) | (refine l_move ?_; (refine SXl.v (OpW.move rfl) rfl ?_ ?_ ?_); rfl; rfl) | (refine l_assign ?_; (refine SXl.v (OpW.assign rfl) rfl ?_ ?_ ?_); rfl; rfl) | (refine l_pick ?_; (refine SXl.v (OpW.pick rfl rfl rfl) rfl ?_ ?_ ?_); rfl; rfl) | (refine l_box ?_; refine SXl.box ?_ ?_ rfl rfl (fun g => ?_); rfl; rfl) | ((first | rw [q0] | rw [q1] | rw [q2] | rw [q3] | rw [q4])) | refine SX.ret ?_)
    refine SQ.body1 rfl rfl (fun w' hl => ⟨ret_bool hv.symm, hl.mod⟩)
  cases q5 : valOk x.stop
  · have hv : sidesOk x = false := by simp [sidesOk, q0, q1, q2, q3, q4, q5]
    repeat (first | refine SX.seq ?_ | refine SXl.nil ?_ | refine SX.region ?_ | refine SQ.thenNormal ?_ | (refine l_call ?_; (refine SXl.v (OpW.call rfl (fun w hl => svalueOk_any _ _)) rfl ?_ ?_ ?_); rfl; rfl) | (refine l_load ?_; (refine SXl.v (OpW.loadRow 0 rfl rfl rfl rfl) rfl ?_ ?_ ?_); rfl; rfl) | (refine l_fieldAddr ?_; (refine SXl.v (OpW.fieldAddr rfl) rfl ?_ ?_ ?_); rfl; rfl) | (refine l_move ?_; (refine SXl.v (OpW.move rfl) rfl ?_ ?_ ?_); rfl; rfl) | (refine l_assign ?_; (refine SXl.v (OpW.assign rfl) rfl ?_ ?_ ?_); rfl; rfl) | (refine l_pick ?_; (refine SXl.v (OpW.pick rfl rfl rfl) rfl ?_ ?_ ?_); rfl; rfl) | (refine l_box ?_; refine SXl.box ?_ ?_ rfl rfl (fun g => ?_); rfl; rfl) | ((first | rw [q0] | rw [q1] | rw [q2] | rw [q3] | rw [q4] | rw [q5])) | refine SX.ret ?_)
    refine SQ.body1 rfl rfl (fun w' hl => ⟨ret_bool hv.symm, hl.mod⟩)
  have hv : sidesOk x = true := by simp [sidesOk, q0, q1, q2, q3, q4, q5]
  repeat (first | refine SX.seq ?_ | refine SXl.nil ?_ | refine SX.region ?_ | refine SQ.thenNormal ?_ | (refine l_call ?_; (refine SXl.v (OpW.call rfl (fun w hl => svalueOk_any _ _)) rfl ?_ ?_ ?_); rfl; rfl) | (refine l_load ?_; (refine SXl.v (OpW.loadRow 0 rfl rfl rfl rfl) rfl ?_ ?_ ?_); rfl; rfl) | (refine l_fieldAddr ?_; (refine SXl.v (OpW.fieldAddr rfl) rfl ?_ ?_ ?_); rfl; rfl) | (refine l_move ?_; (refine SXl.v (OpW.move rfl) rfl ?_ ?_ ?_); rfl; rfl) | (refine l_assign ?_; (refine SXl.v (OpW.assign rfl) rfl ?_ ?_ ?_); rfl; rfl) | (refine l_pick ?_; (refine SXl.v (OpW.pick rfl rfl rfl) rfl ?_ ?_ ?_); rfl; rfl) | (refine l_box ?_; refine SXl.box ?_ ?_ rfl rfl (fun g => ?_); rfl; rfl) | ((first | rw [q0] | rw [q1] | rw [q2] | rw [q3] | rw [q4] | rw [q5])) | refine SX.ret ?_)
  refine SQ.body1 rfl rfl (fun w' hl => ⟨ret_bool hv.symm, hl.mod⟩)


end Go.Proofs.YthffgbhphjkdeaaGreatDoor
namespace Go.Proofs.YthffgbhphjkdeaaGreatDoor
open Go.RowKit

/-- The sign of a digit. -/
def digit (d : Nat) : UInt8 := UInt8.ofNat (48 + d)
/-- What is left to write of n, and what is written. -/
def DigInv (n m : Int) (l : List UInt8) : Prop := Lib.decDigits n.natAbs = (if m = 0 then l else Lib.decDigits m.natAbs ++ l)
theorem DigInv.start (n : Int) (h : n ≠ 0) : DigInv n n [] := by unfold DigInv; rw [if_neg h]; simp
theorem digInv_step {n m q : Int} {l : List UInt8} {d : Nat} (h : DigInv n m l) (hm : m ≠ 0) (hq : q.natAbs = m.natAbs / 10) (hd : d = m.natAbs % 10) : DigInv n q (digit d :: l) := by
  unfold DigInv digit at *
  rw [if_neg hm] at h
  rw [h, Lib.decDigits]
  subst hd
  by_cases h10 : m.natAbs < 10
  · rw [dif_pos h10, if_pos (by omega), Nat.mod_eq_of_lt h10]
    rfl
  · rw [dif_neg h10, if_neg (by omega), hq]
    simp
theorem DigInv.done {n : Int} {l : List UInt8} (h : DigInv n 0 l) : Lib.decDigits n.natAbs = l := by unfold DigInv at h; simpa using h

theorem DigInv.short {n m : Int} {l : List UInt8} (h : DigInv n m l) (h0 : -9223372036854775808 ≤ n) (h1 : n ≤ 9223372036854775807) : l.length ≤ 20 := by
  have h2 := congrArg List.length h
  rw [Lib.decDigits_length] at h2
  have h3 := Lib.nDigits_le20 n.natAbs (by omega)
  split at h2
  · omega
  · rw [List.length_append] at h2; omega
theorem conv_digit (d : Nat) (hd : d < 10) (W : World) : (convert 22 9 (.slice (some ⟨W.heap.size, 0, none⟩) 1 1)).run Tryz.prog (W.alloc (.cells #[.int .u8 (48 + (d : Int))] 5)) = .ok (.string ⟨#[digit d]⟩) (W.alloc (.cells #[.int .u8 (48 + (d : Int))] 5)) := by
  have e : (digit d).toNat = 48 + d := by unfold digit; simp; omega
  have := run_convert_bytes_back (P := Tryz.prog) (W.alloc (.cells #[.int .u8 (48 + (d : Int))] 5)) 22 9 5 ⟨W.heap.size, 0, none⟩ 1 [digit d] Tryz.underlying22 Tryz.underlying5 Tryz.underlying9 (by
    intro j hj
    obtain rfl : j = 0 := by simpa using hj
    simp [go_sem, Addr.add, e])
  simpa using this

theorem itoa_pos {n : Int} (h : 0 ≤ n) : Lib.itoa n = Lib.decDigits n.natAbs := by
  unfold Lib.itoa
  rw [if_neg (by omega), show n.toNat = n.natAbs by omega]
theorem itoa_neg' {n : Int} (h : n < 0) : Lib.itoa n = 45 :: Lib.decDigits n.natAbs := by
  unfold Lib.itoa
  rw [if_pos h]
theorem cat_one (c : UInt8) (l : List UInt8) : ((⟨#[c]⟩ : ByteArray) ++ ⟨l.toArray⟩) = ⟨(c :: l).toArray⟩ := by
  apply ByteArray.ext
  simp [ByteArray.data_append]

set_option maxRecDepth 100000 in
set_option maxHeartbeats 2000000 in
theorem sdecimal_any (n : Int) (h0 : -9223372036854775808 ≤ n) (h1 : n ≤ 9223372036854775807) (w : World) :
    Calls Tryz.prog 53 #[.int .i64 n] w fun e w' => e = .returned (.string ⟨(Lib.itoa n).toArray⟩) ∧ Mod (fun _ => False) w w' := by
  by_cases hz : n = 0
  · subst hz
    have e0 : Lib.itoa 0 = [48] := by rw [itoa_pos (by omega)]; rw [Lib.decDigits]; rfl
    rw [e0]
    go_enter Tryz.func53, Tryz.ntmps53
    go_wp2
    go_ret
    exact ⟨rfl, Mod.refl _ _⟩
  · have hz' : (n == 0) = false := by simpa using hz
    have hst := DigInv.start n hz
    by_cases hneg : n < 0
    · skip
      go_enter Tryz.func53, Tryz.ntmps53
      go_wp2
      go_loopw [0, 4] (fun v s wr => ∃ (k : Nat) (l : List UInt8), k ≤ 9223372036854775808 ∧ v = .int .i64 (-(k : Int)) ∧ s = .string ⟨l.toArray⟩ ∧ DigInv n (-(k : Int)) l ∧ Mod (fun _ => False) w wr) (fun v _ _ => (intOf v).natAbs)
      case atStart => exact ⟨n.natAbs, [], by omega, by rw [show -(n.natAbs : Int) = n by omega], rfl, by rw [show -(n.natAbs : Int) = n by omega]; exact hst, Mod.refl _ _⟩
      case round =>
        obtain ⟨k, l, hk0, rfl, rfl, hI, hM⟩ := hrel
        clear hst hz hz'
        have hl20 := hI.short h0 h1
        clear h0 h1
        by_cases hm : k = 0
        · subst hm
          have hres := hid hI.done
          clear hI
          have hcat := cat_one 45 l
          go_wp2
          go_ret
          exact ⟨by rw [itoa_neg' hneg, hres.out]; rfl, hM⟩
        · have hk1 : 1 ≤ k := by omega
          obtain ⟨d, hd⟩ : ∃ d, d = k % 10 := ⟨_, rfl⟩
          obtain ⟨q, hq⟩ : ∃ q, q = k / 10 := ⟨_, rfl⟩
          have hd10 : d < 10 := by omega
          have hq' : q ≤ 922337203685477580 := by omega
          have hqk : q < k := by omega
          have hstep := hid (digInv_step (q := -(q : Int)) hI (by omega) (by omega) (show d = (-(k : Int)).natAbs % 10 by omega))
          have e1 : (-(k : Int)).tmod 10 = -(d : Int) := by rw [Int.neg_tmod, Int.tmod_eq_emod_of_nonneg (by omega), hd]; omega
          have e2 : (-(k : Int)).tdiv 10 = -(q : Int) := by rw [Int.neg_tdiv, Int.tdiv_eq_ediv_of_nonneg (by omega), hq]; omega
          have hc := conv_digit d hd10
          have hcat := cat_one (digit d) l
          clear hI
          have hn1 : decide (-(k : Int) = 0) = false := by simp; omega
          clear hd hq
          by_cases hd0 : d = 0
          · subst hd0
            have hc : ∀ W : World, (convert 22 9 (.slice (some ⟨W.heap.size, 0, none⟩) 1 1)).run Tryz.prog (W.alloc (.cells #[.int .u8 48] 5)) = .ok (.string ⟨#[digit 0]⟩) (W.alloc (.cells #[.int .u8 48] 5)) := fun W => conv_digit 0 (by omega) W
            go_wp2
            go_roundw
            case rel => exact ⟨q, digit 0 :: l, by omega, rfl, rfl, hstep.out, hM.alloc _⟩
            case measure => simp [intOf]; omega
          · have hd1 : 1 ≤ d := by omega
            go_wp2
            go_roundw
            case rel => exact ⟨q, digit d :: l, by omega, rfl, rfl, hstep.out, hM.alloc _⟩
            case measure => simp [intOf]; omega
    · skip
      go_enter Tryz.func53, Tryz.ntmps53
      go_wp2
      go_loopw [0, 4] (fun v s wr => ∃ (k : Nat) (l : List UInt8), k ≤ 9223372036854775807 ∧ v = .int .i64 (k : Int) ∧ s = .string ⟨l.toArray⟩ ∧ DigInv n (k : Int) l ∧ Mod (fun _ => False) w wr) (fun v _ _ => (intOf v).natAbs)
      case atStart => exact ⟨n.natAbs, [], by omega, by rw [show (n.natAbs : Int) = n by omega], rfl, by rw [show (n.natAbs : Int) = n by omega]; exact hst, Mod.refl _ _⟩
      case round =>
        obtain ⟨k, l, hk0, rfl, rfl, hI, hM⟩ := hrel
        clear hst hz hz'
        have hl20 := hI.short h0 h1
        clear h0 h1
        by_cases hm : k = 0
        · subst hm
          have hres := hid hI.done
          clear hI
          have hcat := cat_one 45 l
          go_wp2
          go_ret
          exact ⟨by rw [itoa_pos (by omega), hres.out]; rfl, hM⟩
        · have hk1 : 1 ≤ k := by omega
          obtain ⟨d, hd⟩ : ∃ d, d = k % 10 := ⟨_, rfl⟩
          obtain ⟨q, hq⟩ : ∃ q, q = k / 10 := ⟨_, rfl⟩
          have hd10 : d < 10 := by omega
          have hq' : q ≤ 922337203685477580 := by omega
          have hqk : q < k := by omega
          have hstep := hid (digInv_step (q := (q : Int)) hI (by omega) (by omega) (show d = ((k : Int)).natAbs % 10 by omega))
          have e1 : ((k : Int)).tmod 10 = (d : Int) := by rw [Int.tmod_eq_emod_of_nonneg (by omega), hd]; omega
          have e2 : ((k : Int)).tdiv 10 = (q : Int) := by rw [Int.tdiv_eq_ediv_of_nonneg (by omega), hq]; omega
          have hc := conv_digit d hd10
          have hcat := cat_one (digit d) l
          clear hI
          have e3 : (k : Int) % 10 = d := by omega
          have e4 : (k : Int) / 10 = q := by omega
          clear hd hq
          go_wp2
          go_roundw
          case rel => exact ⟨q, digit d :: l, by omega, rfl, rfl, hstep.out, hM.alloc _⟩
          case measure => simp [intOf]; omega

end Go.Proofs.YthffgbhphjkdeaaGreatDoor
namespace Go.Proofs.YthffgbhphjkdeaaGreatDoor
open Go.RowKit

def icell (x : Int) : List Value := [.int .i64 x]
abbrev IntSlice (R : Nat → Prop) (w : World) (a : Option Addr) (l : List Int) : Prop := SliceAt (Flat icell) 1 R w a l

theorem IntSlice.get {R : Nat → Prop} {w : World} {a : Option Addr} {l : List Int} (h : IntSlice R w a l) {k : Nat} (hk : k < l.length) :
    ∃ b o x, a = some ⟨b, o, none⟩ ∧ R b ∧ b < w.heap.size ∧ Hid (l[k]? = some x) ∧ w.cell? ⟨b, o + k, none⟩ = some (.int .i64 x) := by
  obtain ⟨b, o, x, r, rfl, hR, hb, hx, hr, _, hc⟩ := SliceAt.get h hk
  obtain rfl : r = icell x := hr
  have := hc 0 _ rfl
  rw [Nat.mul_one, Nat.add_zero] at this
  exact ⟨b, o, x, rfl, hR, hb, hx, this⟩
theorem IntSlice.at {R : Nat → Prop} {w : World} {a : Option Addr} {l : List Int} (h : IntSlice R w a l) : IntsAt w a l := by
  by_cases hl : l = []
  · exact .inl hl
  · obtain ⟨b, o, x, rfl, _⟩ := h.get (List.length_pos_iff.2 hl)
    refine .inr ⟨b, o, rfl, fun i hi => ?_⟩
    obtain ⟨b', o', y, e, _, _, hy, hc⟩ := h.get hi
    simp only [Option.some.injEq, Addr.mk.injEq, and_true] at e
    obtain ⟨rfl, rfl⟩ := e
    rw [hc]
    have := hy.out
    simp [List.getD, this]
end Go.Proofs.YthffgbhphjkdeaaGreatDoor
namespace Go.Proofs.YthffgbhphjkdeaaGreatDoor
open Go.RowKit

/-- A text's one cell. -/
def tcell (l : List UInt8) : List Value := [.string ⟨l.toArray⟩]
theorem info_string : (Tryz.prog.info? 9).map (fun i => (i.zero, i.size, i.bytes)) = some (some (.string ⟨#[]⟩), 1, 16) := by kernel_rfl
abbrev TextSlice (R : Nat → Prop) (w : World) (a : Option Addr) (l : List (List UInt8)) : Prop := SliceAt (Flat tcell) 1 R w a l
theorem TextSlice.get {R : Nat → Prop} {w : World} {a : Option Addr} {l : List (List UInt8)} (h : TextSlice R w a l) {k : Nat} (hk : k < l.length) :
    ∃ b o x, a = some ⟨b, o, none⟩ ∧ R b ∧ b < w.heap.size ∧ Hid (l[k]? = some x) ∧ w.cell? ⟨b, o + k, none⟩ = some (.string ⟨x.toArray⟩) := by
  obtain ⟨b, o, x, r, rfl, hR, hb, hx, hr, _, hc⟩ := SliceAt.get h hk
  obtain rfl : r = tcell x := hr
  have := hc 0 _ rfl
  rw [Nat.mul_one, Nat.add_zero] at this
  exact ⟨b, o, x, rfl, hR, hb, hx, this⟩

end Go.Proofs.YthffgbhphjkdeaaGreatDoor
namespace Go.Proofs.YthffgbhphjkdeaaGreatDoor
open Go.RowKit

/-- The library's table of powers lies as its text lays it. -/
def Tab (w : World) : Prop := Lib.TabIs Tryz.prog w "internal/strconv.uint64pow10" .u64 Lib.pow10Tab
theorem var_keep {P : Program} {w w' : World} {n : String} {cs : Array Value} (hm : Mod (fun _ => False) w w') (h : w.var? P n = some cs) : w'.var? P n = some cs := by
  unfold World.var? at h ⊢
  cases hg : P.globalNamed n with
  | none => rw [hg] at h; simp at h
  | some g =>
    rw [hg] at h
    simp only [Option.bind_some] at h ⊢
    have hlt : g < w.heap.size := by
      rcases Nat.lt_or_ge g w.heap.size with h' | h'
      · exact h'
      · rw [Array.getElem?_eq_none h'] at h; cases h
    rw [hm.block g hlt (fun f => f)]
    exact h
theorem Tab.keep {w w' : World} (h : Tab w) (hm : Mod (fun _ => False) w w') : Tab w' := var_keep hm h
theorem grow_keep (w : World) (os : Array Obj) : Mod (fun _ => False) w (Sort.grow w os) :=
  ⟨rfl, rfl, rfl, by simp [Sort.grow], fun k hk _ => by simp [Sort.grow, Array.getElem?_append, hk]⟩
theorem below_kept {w w' : World} (h : Below w.heap.size w w') : Mod (fun _ => False) w w' := ⟨h.os, h.tape, h.output, h.size, fun k hk _ => h.block k hk⟩

theorem decimal_any (n : Int) (hb : I64 n) (w : World) (ht : Tab w) : Calls Tryz.prog 31 #[.int .i64 n] w fun e w' => e = .returned (.string ⟨(Lib.itoa n).toArray⟩) ∧ Mod (fun _ => False) w w' := by
  have k := Tryz.strconv_Itoa n hb.1 hb.2 w ht
  clear hb ht
  go_enter Tryz.func31, Tryz.ntmps31
  go_wp2_with fail
  refine k.mono ?_
  rintro e w' ⟨rfl, n, os, rfl⟩
  have hm : Mod (fun _ => False) w (Sort.grow (w.drewN n) os) := ((Mod.refl _ w).drewN n).trans (grow_keep _ _)
  generalize Sort.grow (w.drewN n) os = w1 at hm
  go_wp2
  go_ret
  exact ⟨rfl, hm⟩

end Go.Proofs.YthffgbhphjkdeaaGreatDoor
namespace Go.Proofs.YthffgbhphjkdeaaGreatDoor

def intTexts : List (List UInt8) := [[100, 105, 114], [119, 114, 97, 112], [106, 117, 115, 116, 105, 102, 121], [105, 116, 101, 109, 115], [115, 101, 108, 102], [99, 111, 110, 116, 101, 110, 116], [97, 112, 97, 114, 116], [104, 105, 100, 100, 101, 110], [111, 114, 100, 101, 114], [103, 114, 111, 119], [115, 104, 114, 105, 110, 107], [114, 97, 116, 105, 111], [114, 111, 119, 45, 103, 97, 112], [99, 111, 108, 45, 103, 97, 112], [112, 97, 100, 45, 108, 101, 102, 116], [112, 97, 100, 45, 116, 111, 112], [112, 97, 100, 45, 114, 105, 103, 104, 116], [112, 97, 100, 45, 98, 111, 116, 116, 111, 109], [98, 111, 114, 100, 101, 114, 45, 108, 101, 102, 116], [98, 111, 114, 100, 101, 114, 45, 116, 111, 112], [98, 111, 114, 100, 101, 114, 45, 114, 105, 103, 104, 116], [98, 111, 114, 100, 101, 114, 45, 98, 111, 116, 116, 111, 109]]
def valueTexts : List (List UInt8) := [[98, 97, 115, 105, 115], [119, 105, 100, 116, 104], [104, 101, 105, 103, 104, 116], [109, 105, 110, 45, 119, 105, 100, 116, 104], [109, 105, 110, 45, 104, 101, 105, 103, 104, 116], [109, 97, 120, 45, 119, 105, 100, 116, 104], [109, 97, 120, 45, 104, 101, 105, 103, 104, 116], [109, 97, 114, 103, 105, 110, 45, 108, 101, 102, 116], [109, 97, 114, 103, 105, 110, 45, 116, 111, 112], [109, 97, 114, 103, 105, 110, 45, 114, 105, 103, 104, 116], [109, 97, 114, 103, 105, 110, 45, 98, 111, 116, 116, 111, 109], [109, 97, 114, 103, 105, 110, 45, 115, 116, 97, 114, 116], [109, 97, 114, 103, 105, 110, 45, 101, 110, 100], [105, 110, 115, 101, 116, 45, 108, 101, 102, 116], [105, 110, 115, 101, 116, 45, 116, 111, 112], [105, 110, 115, 101, 116, 45, 114, 105, 103, 104, 116], [105, 110, 115, 101, 116, 45, 98, 111, 116, 116, 111, 109], [105, 110, 115, 101, 116, 45, 115, 116, 97, 114, 116], [105, 110, 115, 101, 116, 45, 101, 110, 100]]
def keyTexts : List (List UInt8) := intTexts ++ valueTexts
end Go.Proofs.YthffgbhphjkdeaaGreatDoor
namespace Go.Proofs.YthffgbhphjkdeaaGreatDoor

def bitOf (b : Bool) : Int := if b then 1 else 0
def ioffs : List Nat := [0, 1, 2, 3, 4, 5, 6, 7, 8, 9, 10, 25, 58, 59, 50, 51, 52, 53, 54, 55, 56, 57]
def voffs : List Nat := [11, 13, 15, 17, 19, 21, 23, 26, 28, 30, 32, 34, 36, 38, 40, 42, 44, 46, 48]
def styleInts (s : Style) : List Int := [s.dir, s.wrap, s.justify, s.items, s.self, s.content, bitOf s.apart, bitOf s.hidden, s.order, s.grow, s.shrink, s.ratio, s.rowGap, s.colGap, s.pad.left, s.pad.top, s.pad.right, s.pad.bottom, s.border.left, s.border.top, s.border.right, s.border.bottom]
def styleVals (s : Style) : List Val := [s.basis, s.width, s.height, s.minWidth, s.minHeight, s.maxWidth, s.maxHeight, s.margin.left, s.margin.top, s.margin.right, s.margin.bottom, s.margin.start, s.margin.stop, s.inset.left, s.inset.top, s.inset.right, s.inset.bottom, s.inset.start, s.inset.stop]
def idxOf (l : List (List UInt8)) (k : List UInt8) : Option Nat := l.findIdx? (fun x => decide (x = k))
def keyOf (s : Style) (k : List UInt8) : Val × Bool :=
  match idxOf intTexts k with
  | some i => (⟨1, (styleInts s).getD i 0⟩, true)
  | none => match idxOf valueTexts k with
    | some i => ((styleVals s).getD i ⟨0, 0⟩, true)
    | none => (⟨0, 0⟩, false)
theorem idxOf_lt {l : List (List UInt8)} {k : List UInt8} {i : Nat} (h : idxOf l k = some i) : i < l.length := by
  unfold idxOf at h
  rw [List.findIdx?_eq_some_iff_findIdx_eq] at h
  exact h.1
theorem idxOf_at {l : List (List UInt8)} {k : List UInt8} {i : Nat} (h : idxOf l k = some i) : l[i]? = some k := by
  unfold idxOf at h
  rw [List.findIdx?_eq_some_iff_getElem] at h
  obtain ⟨h1, h2, _⟩ := h
  rw [List.getElem?_eq_getElem h1]
  simpa using h2
theorem int_at (s : Style) {i : Nat} (h : i < 22) (h6 : i ≠ 6) (h7 : i ≠ 7) : s.cells[ioffs.getD i 0]? = some (.int .i64 ((styleInts s).getD i 0)) := by
  obtain (rfl|rfl|rfl|rfl|rfl|rfl|rfl|rfl|rfl|rfl|rfl|rfl|rfl|rfl|rfl|rfl|rfl|rfl|rfl|rfl|rfl|rfl) : i = 0 ∨ i = 1 ∨ i = 2 ∨ i = 3 ∨ i = 4 ∨ i = 5 ∨ i = 6 ∨ i = 7 ∨ i = 8 ∨ i = 9 ∨ i = 10 ∨ i = 11 ∨ i = 12 ∨ i = 13 ∨ i = 14 ∨ i = 15 ∨ i = 16 ∨ i = 17 ∨ i = 18 ∨ i = 19 ∨ i = 20 ∨ i = 21 := by omega
  all_goals first | contradiction | rfl
theorem val_at (s : Style) {i : Nat} (h : i < 19) : (s.cells.drop (voffs.getD i 0)).take 2 = ((styleVals s).getD i ⟨0, 0⟩).cells ∧ voffs.getD i 0 + 2 ≤ 60 := by
  obtain (rfl|rfl|rfl|rfl|rfl|rfl|rfl|rfl|rfl|rfl|rfl|rfl|rfl|rfl|rfl|rfl|rfl|rfl|rfl) : i = 0 ∨ i = 1 ∨ i = 2 ∨ i = 3 ∨ i = 4 ∨ i = 5 ∨ i = 6 ∨ i = 7 ∨ i = 8 ∨ i = 9 ∨ i = 10 ∨ i = 11 ∨ i = 12 ∨ i = 13 ∨ i = 14 ∨ i = 15 ∨ i = 16 ∨ i = 17 ∨ i = 18 := by omega
  all_goals exact ⟨rfl, by decide⟩
def setInt (s : Style) (i : Nat) (n : Int) : Style := match i with
  | 0 => { s with dir := n }
  | 1 => { s with wrap := n }
  | 2 => { s with justify := n }
  | 3 => { s with items := n }
  | 4 => { s with self := n }
  | 5 => { s with content := n }
  | 8 => { s with order := n }
  | 9 => { s with grow := n }
  | 10 => { s with shrink := n }
  | 11 => { s with ratio := n }
  | 12 => { s with rowGap := n }
  | 13 => { s with colGap := n }
  | 14 => { s with pad := { s.pad with left := n } }
  | 15 => { s with pad := { s.pad with top := n } }
  | 16 => { s with pad := { s.pad with right := n } }
  | 17 => { s with pad := { s.pad with bottom := n } }
  | 18 => { s with border := { s.border with left := n } }
  | 19 => { s with border := { s.border with top := n } }
  | 20 => { s with border := { s.border with right := n } }
  | 21 => { s with border := { s.border with bottom := n } }
  | _ => s
def setVal (s : Style) (i : Nat) (v : Val) : Style := match i with
  | 0 => { s with basis := v }
  | 1 => { s with width := v }
  | 2 => { s with height := v }
  | 3 => { s with minWidth := v }
  | 4 => { s with minHeight := v }
  | 5 => { s with maxWidth := v }
  | 6 => { s with maxHeight := v }
  | 7 => { s with margin := { s.margin with left := v } }
  | 8 => { s with margin := { s.margin with top := v } }
  | 9 => { s with margin := { s.margin with right := v } }
  | 10 => { s with margin := { s.margin with bottom := v } }
  | 11 => { s with margin := { s.margin with start := v } }
  | 12 => { s with margin := { s.margin with stop := v } }
  | 13 => { s with inset := { s.inset with left := v } }
  | 14 => { s with inset := { s.inset with top := v } }
  | 15 => { s with inset := { s.inset with right := v } }
  | 16 => { s with inset := { s.inset with bottom := v } }
  | 17 => { s with inset := { s.inset with start := v } }
  | 18 => { s with inset := { s.inset with stop := v } }
  | _ => s
theorem setInt_cells (s : Style) {i : Nat} (n : Int) (h : i < 22) (h6 : i ≠ 6) (h7 : i ≠ 7) : s.cells.set (ioffs.getD i 0) (.int .i64 n) = (setInt s i n).cells ∧ ioffs.getD i 0 < 60 := by
  obtain (rfl|rfl|rfl|rfl|rfl|rfl|rfl|rfl|rfl|rfl|rfl|rfl|rfl|rfl|rfl|rfl|rfl|rfl|rfl|rfl|rfl|rfl) : i = 0 ∨ i = 1 ∨ i = 2 ∨ i = 3 ∨ i = 4 ∨ i = 5 ∨ i = 6 ∨ i = 7 ∨ i = 8 ∨ i = 9 ∨ i = 10 ∨ i = 11 ∨ i = 12 ∨ i = 13 ∨ i = 14 ∨ i = 15 ∨ i = 16 ∨ i = 17 ∨ i = 18 ∨ i = 19 ∨ i = 20 ∨ i = 21 := by omega
  all_goals first | contradiction | exact ⟨rfl, by decide⟩
theorem setVal_cells (s : Style) {i : Nat} (v : Val) (h : i < 19) : (s.cells.set (voffs.getD i 0) (.int .i64 v.kind)).set (voffs.getD i 0 + 1) (.int .i64 v.n) = (setVal s i v).cells := by
  obtain (rfl|rfl|rfl|rfl|rfl|rfl|rfl|rfl|rfl|rfl|rfl|rfl|rfl|rfl|rfl|rfl|rfl|rfl|rfl) : i = 0 ∨ i = 1 ∨ i = 2 ∨ i = 3 ∨ i = 4 ∨ i = 5 ∨ i = 6 ∨ i = 7 ∨ i = 8 ∨ i = 9 ∨ i = 10 ∨ i = 11 ∨ i = 12 ∨ i = 13 ∨ i = 14 ∨ i = 15 ∨ i = 16 ∨ i = 17 ∨ i = 18 := by omega
  all_goals rfl
end Go.Proofs.YthffgbhphjkdeaaGreatDoor
namespace Go.Proofs.YthffgbhphjkdeaaGreatDoor
open Go.RowKit

def valText (v : Val) : List UInt8 := if valOk v then (if v.kind = 1 then Lib.itoa v.n else if v.kind = 2 then Lib.itoa v.n ++ [37] else if v.kind = 3 then [97, 117, 116, 111] else [110, 111, 110, 101]) else [63]
theorem valText_short (v : Val) (hb : I64 v.n) : (valText v).length ≤ 24 := by
  have h := Lib.itoa_length_le v.n hb.1 hb.2
  unfold valText
  split
  · split
    · omega
    · split
      · rw [List.length_append, List.length_singleton]; omega
      · split <;> simp
  · simp
set_option maxRecDepth 100000 in
set_option maxHeartbeats 4000000 in
theorem valueText_any (v : Val) (hb : I64 v.n) (w : World) (ht : Tab w) : Calls Tryz.prog 11 #[.agg v.cells.toArray] w fun e w' => e = .returned (.string ⟨(valText v).toArray⟩) ∧ Mod (fun _ => False) w w' := by
  refine calls_sx Tryz.func11 rfl rfl (fun a h1 h2 h3 => ((Fr.nil h1 h2).arg (h3 0 _ rfl))) ?_
  have hlen := Lib.itoa_length_le v.n hb.1 hb.2
  have hd := fun w h => decimal_any v.n hb w h
  cases hv : valOk v
  · have e : valText v = [63] := by simp [valText, hv]
    rw [e]
    repeat (first | refine SX.seq ?_ | refine SXl.nil ?_ | refine SX.region ?_ | refine SQ.thenNormal ?_ | refine SX.condT rfl ?_ | (refine l_call ?_; (refine SXl.v (OpW.call rfl (fun w hl => valueOk_any v _)) rfl ?_ ?_ ?_); rfl; rfl) | (refine l_load ?_; (refine SXl.v (OpW.loadAll 0 rfl rfl rfl) rfl ?_ ?_ ?_); rfl; rfl) | (refine l_assign ?_; (refine SXl.v (OpW.assign rfl) rfl ?_ ?_ ?_); rfl; rfl) | (refine l_not ?_; (refine SXl.v (OpW.not rfl) rfl ?_ ?_ ?_); rfl; rfl) | (refine l_box ?_; refine SXl.box ?_ ?_ rfl rfl (fun g => ?_); rfl; rfl) | (rw [hv]) | refine SX.ret ?_ | refine SQ.thenRet ?_)
    refine SQ.body1 rfl rfl (fun w' hl => ⟨rfl, hl.mod⟩)
  by_cases k1 : v.kind = 1
  · have e : valText v = Lib.itoa v.n := by simp [valText, hv, k1]
    rw [e]
    repeat (first | refine SX.seq ?_ | refine SXl.nil ?_ | refine SX.region ?_ | refine SQ.thenNormal ?_ | refine SX.block ?_ | refine SX.skip ?_ | refine SX.condT rfl ?_ | refine SX.condF rfl ?_ | (refine l_call ?_; (first | refine SXl.v (OpW.call rfl (fun w hl => valueOk_any v _)) rfl ?_ ?_ ?_ | refine SXl.v (OpW.call rfl (fun w hl => hd _ (ht.keep hl.mod))) rfl ?_ ?_ ?_); rfl; rfl) | (refine l_load ?_; (first | refine SXl.v (OpW.load 0 rfl rfl rfl) rfl ?_ ?_ ?_ | refine SXl.v (OpW.loadAll 0 rfl rfl rfl) rfl ?_ ?_ ?_); rfl; rfl) | (refine l_fieldAddr ?_; (refine SXl.v (OpW.fieldAddr rfl) rfl ?_ ?_ ?_); rfl; rfl) | (refine l_assign ?_; (refine SXl.v (OpW.assign rfl) rfl ?_ ?_ ?_); rfl; rfl) | (refine l_eql ?_; (refine SXl.v (OpW.eqlT rfl rfl (by omega)) rfl ?_ ?_ ?_); rfl; rfl) | (refine l_not ?_; (refine SXl.v (OpW.not rfl) rfl ?_ ?_ ?_); rfl; rfl) | (refine l_box ?_; refine SXl.box ?_ ?_ rfl rfl (fun g => ?_); rfl; rfl) | (rw [hv]) | refine SX.ret ?_ | refine SQ.thenRet ?_ | refine SQ.blockRet ?_)
    refine SQ.body1 rfl rfl (fun w' hl => ⟨rfl, hl.mod⟩)
  by_cases k2 : v.kind = 2
  · have e : valText v = Lib.itoa v.n ++ [37] := by simp [valText, hv, k2]
    rw [e]
    repeat (first | refine SX.seq ?_ | refine SXl.nil ?_ | refine SX.region ?_ | refine SQ.thenNormal ?_ | refine SX.block ?_ | refine SX.skip ?_ | refine SX.condT rfl ?_ | refine SX.condF rfl ?_ | (refine l_call ?_; (first | refine SXl.v (OpW.call rfl (fun w hl => valueOk_any v _)) rfl ?_ ?_ ?_ | refine SXl.v (OpW.call rfl (fun w hl => hd _ (ht.keep hl.mod))) rfl ?_ ?_ ?_); rfl; rfl) | (refine l_add ?_; (refine SXl.v ((OpW.cat (b := [37]) rfl rfl (by simp; omega))) rfl ?_ ?_ ?_); rfl; rfl) | (refine l_load ?_; (first | refine SXl.v (OpW.load 0 rfl rfl rfl) rfl ?_ ?_ ?_ | refine SXl.v (OpW.loadAll 0 rfl rfl rfl) rfl ?_ ?_ ?_); rfl; rfl) | (refine l_fieldAddr ?_; (refine SXl.v (OpW.fieldAddr rfl) rfl ?_ ?_ ?_); rfl; rfl) | (refine l_assign ?_; (refine SXl.v (OpW.assign rfl) rfl ?_ ?_ ?_); rfl; rfl) | (refine l_eql ?_; (first | refine SXl.v (OpW.eqlT rfl rfl (by omega)) rfl ?_ ?_ ?_ | refine SXl.v (OpW.eqlF rfl rfl (by omega)) rfl ?_ ?_ ?_); rfl; rfl) | (refine l_not ?_; (refine SXl.v (OpW.not rfl) rfl ?_ ?_ ?_); rfl; rfl) | (refine l_box ?_; refine SXl.box ?_ ?_ rfl rfl (fun g => ?_); rfl; rfl) | (rw [hv]) | refine SX.ret ?_ | refine SQ.thenRet ?_ | refine SQ.blockRet ?_)
    refine SQ.body1 rfl rfl (fun w' hl => ⟨rfl, hl.mod⟩)
  by_cases k3 : v.kind = 3
  · have e : valText v = [97, 117, 116, 111] := by simp [valText, hv, k3]
    rw [e]
    repeat (first | refine SX.seq ?_ | refine SXl.nil ?_ | refine SX.region ?_ | refine SQ.thenNormal ?_ | refine SX.block ?_ | refine SX.skip ?_ | refine SX.condT rfl ?_ | refine SX.condF rfl ?_ | (refine l_call ?_; (refine SXl.v (OpW.call rfl (fun w hl => valueOk_any v _)) rfl ?_ ?_ ?_); rfl; rfl) | (refine l_load ?_; (first | refine SXl.v (OpW.load 0 rfl rfl rfl) rfl ?_ ?_ ?_ | refine SXl.v (OpW.loadAll 0 rfl rfl rfl) rfl ?_ ?_ ?_); rfl; rfl) | (refine l_fieldAddr ?_; (refine SXl.v (OpW.fieldAddr rfl) rfl ?_ ?_ ?_); rfl; rfl) | (refine l_assign ?_; (refine SXl.v (OpW.assign rfl) rfl ?_ ?_ ?_); rfl; rfl) | (refine l_eql ?_; (first | refine SXl.v (OpW.eqlT rfl rfl (by omega)) rfl ?_ ?_ ?_ | refine SXl.v (OpW.eqlF rfl rfl (by omega)) rfl ?_ ?_ ?_); rfl; rfl) | (refine l_not ?_; (refine SXl.v (OpW.not rfl) rfl ?_ ?_ ?_); rfl; rfl) | (refine l_box ?_; refine SXl.box ?_ ?_ rfl rfl (fun g => ?_); rfl; rfl) | (rw [hv]) | refine SX.ret ?_ | refine SQ.thenRet ?_ | refine SQ.blockRet ?_)
    refine SQ.body1 rfl rfl (fun w' hl => ⟨rfl, hl.mod⟩)
  · have e : valText v = [110, 111, 110, 101] := by simp [valText, hv, k1, k2, k3]
    rw [e]
    repeat (first | refine SX.seq ?_ | refine SXl.nil ?_ | refine SX.region ?_ | refine SQ.thenNormal ?_ | refine SX.block ?_ | refine SX.skip ?_ | refine SX.condF rfl ?_ | (refine l_call ?_; (refine SXl.v (OpW.call rfl (fun w hl => valueOk_any v _)) rfl ?_ ?_ ?_); rfl; rfl) | (refine l_load ?_; (first | refine SXl.v (OpW.load 0 rfl rfl rfl) rfl ?_ ?_ ?_ | refine SXl.v (OpW.loadAll 0 rfl rfl rfl) rfl ?_ ?_ ?_); rfl; rfl) | (refine l_fieldAddr ?_; (refine SXl.v (OpW.fieldAddr rfl) rfl ?_ ?_ ?_); rfl; rfl) | (refine l_assign ?_; (refine SXl.v (OpW.assign rfl) rfl ?_ ?_ ?_); rfl; rfl) | (refine l_eql ?_; (refine SXl.v (OpW.eqlF rfl rfl (by omega)) rfl ?_ ?_ ?_); rfl; rfl) | (refine l_not ?_; (refine SXl.v (OpW.not rfl) rfl ?_ ?_ ?_); rfl; rfl) | (refine l_box ?_; refine SXl.box ?_ ?_ rfl rfl (fun g => ?_); rfl; rfl) | (rw [hv]) | refine SX.ret ?_ | refine SQ.blockNormal ?_)
    refine SQ.body1 rfl rfl (fun w' hl => ⟨rfl, hl.mod⟩)
set_option maxRecDepth 100000 in
set_option maxHeartbeats 4000000 in
theorem svalueText_any (v : Val) (hb : I64 v.n) (w : World) : Calls Tryz.prog 36 #[.agg v.cells.toArray] w fun e w' => e = .returned (.string ⟨(valText v).toArray⟩) ∧ Mod (fun _ => False) w w' := by
  refine calls_sx Tryz.func36 rfl rfl (fun a h1 h2 h3 => ((Fr.nil h1 h2).arg (h3 0 _ rfl))) ?_
  have hlen := Lib.itoa_length_le v.n hb.1 hb.2
  have hd := fun w => sdecimal_any v.n hb.1 hb.2 w
  cases hv : valOk v
  · have e : valText v = [63] := by simp [valText, hv]
    rw [e]
    repeat (first | refine SX.seq ?_ | refine SXl.nil ?_ | refine SX.region ?_ | refine SQ.thenNormal ?_ | refine SX.condT rfl ?_ | (refine l_call ?_; (refine SXl.v (OpW.call rfl (fun w hl => svalueOk_any v _)) rfl ?_ ?_ ?_); rfl; rfl) | (refine l_load ?_; (refine SXl.v (OpW.loadAll 0 rfl rfl rfl) rfl ?_ ?_ ?_); rfl; rfl) | (refine l_assign ?_; (refine SXl.v (OpW.assign rfl) rfl ?_ ?_ ?_); rfl; rfl) | (refine l_not ?_; (refine SXl.v (OpW.not rfl) rfl ?_ ?_ ?_); rfl; rfl) | (refine l_box ?_; refine SXl.box ?_ ?_ rfl rfl (fun g => ?_); rfl; rfl) | (rw [hv]) | refine SX.ret ?_ | refine SQ.thenRet ?_)
    refine SQ.body1 rfl rfl (fun w' hl => ⟨rfl, hl.mod⟩)
  by_cases k1 : v.kind = 1
  · have e : valText v = Lib.itoa v.n := by simp [valText, hv, k1]
    rw [e]
    repeat (first | refine SX.seq ?_ | refine SXl.nil ?_ | refine SX.region ?_ | refine SQ.thenNormal ?_ | refine SX.block ?_ | refine SX.skip ?_ | refine SX.condT rfl ?_ | refine SX.condF rfl ?_ | (refine l_call ?_; (first | refine SXl.v (OpW.call rfl (fun w hl => svalueOk_any v _)) rfl ?_ ?_ ?_ | refine SXl.v (OpW.call rfl (fun w hl => hd _)) rfl ?_ ?_ ?_); rfl; rfl) | (refine l_load ?_; (first | refine SXl.v (OpW.load 0 rfl rfl rfl) rfl ?_ ?_ ?_ | refine SXl.v (OpW.loadAll 0 rfl rfl rfl) rfl ?_ ?_ ?_); rfl; rfl) | (refine l_fieldAddr ?_; (refine SXl.v (OpW.fieldAddr rfl) rfl ?_ ?_ ?_); rfl; rfl) | (refine l_assign ?_; (refine SXl.v (OpW.assign rfl) rfl ?_ ?_ ?_); rfl; rfl) | (refine l_eql ?_; (refine SXl.v (OpW.eqlT rfl rfl (by omega)) rfl ?_ ?_ ?_); rfl; rfl) | (refine l_not ?_; (refine SXl.v (OpW.not rfl) rfl ?_ ?_ ?_); rfl; rfl) | (refine l_box ?_; refine SXl.box ?_ ?_ rfl rfl (fun g => ?_); rfl; rfl) | (rw [hv]) | refine SX.ret ?_ | refine SQ.thenRet ?_ | refine SQ.blockRet ?_)
    refine SQ.body1 rfl rfl (fun w' hl => ⟨rfl, hl.mod⟩)
  by_cases k2 : v.kind = 2
  · have e : valText v = Lib.itoa v.n ++ [37] := by simp [valText, hv, k2]
    rw [e]
    repeat (first | refine SX.seq ?_ | refine SXl.nil ?_ | refine SX.region ?_ | refine SQ.thenNormal ?_ | refine SX.block ?_ | refine SX.skip ?_ | refine SX.condT rfl ?_ | refine SX.condF rfl ?_ | (refine l_call ?_; (first | refine SXl.v (OpW.call rfl (fun w hl => svalueOk_any v _)) rfl ?_ ?_ ?_ | refine SXl.v (OpW.call rfl (fun w hl => hd _)) rfl ?_ ?_ ?_); rfl; rfl) | (refine l_add ?_; (refine SXl.v ((OpW.cat (b := [37]) rfl rfl (by simp; omega))) rfl ?_ ?_ ?_); rfl; rfl) | (refine l_load ?_; (first | refine SXl.v (OpW.load 0 rfl rfl rfl) rfl ?_ ?_ ?_ | refine SXl.v (OpW.loadAll 0 rfl rfl rfl) rfl ?_ ?_ ?_); rfl; rfl) | (refine l_fieldAddr ?_; (refine SXl.v (OpW.fieldAddr rfl) rfl ?_ ?_ ?_); rfl; rfl) | (refine l_assign ?_; (refine SXl.v (OpW.assign rfl) rfl ?_ ?_ ?_); rfl; rfl) | (refine l_eql ?_; (first | refine SXl.v (OpW.eqlT rfl rfl (by omega)) rfl ?_ ?_ ?_ | refine SXl.v (OpW.eqlF rfl rfl (by omega)) rfl ?_ ?_ ?_); rfl; rfl) | (refine l_not ?_; (refine SXl.v (OpW.not rfl) rfl ?_ ?_ ?_); rfl; rfl) | (refine l_box ?_; refine SXl.box ?_ ?_ rfl rfl (fun g => ?_); rfl; rfl) | (rw [hv]) | refine SX.ret ?_ | refine SQ.thenRet ?_ | refine SQ.blockRet ?_)
    refine SQ.body1 rfl rfl (fun w' hl => ⟨rfl, hl.mod⟩)
  by_cases k3 : v.kind = 3
  · have e : valText v = [97, 117, 116, 111] := by simp [valText, hv, k3]
    rw [e]
    repeat (first | refine SX.seq ?_ | refine SXl.nil ?_ | refine SX.region ?_ | refine SQ.thenNormal ?_ | refine SX.block ?_ | refine SX.skip ?_ | refine SX.condT rfl ?_ | refine SX.condF rfl ?_ | (refine l_call ?_; (refine SXl.v (OpW.call rfl (fun w hl => svalueOk_any v _)) rfl ?_ ?_ ?_); rfl; rfl) | (refine l_load ?_; (first | refine SXl.v (OpW.load 0 rfl rfl rfl) rfl ?_ ?_ ?_ | refine SXl.v (OpW.loadAll 0 rfl rfl rfl) rfl ?_ ?_ ?_); rfl; rfl) | (refine l_fieldAddr ?_; (refine SXl.v (OpW.fieldAddr rfl) rfl ?_ ?_ ?_); rfl; rfl) | (refine l_assign ?_; (refine SXl.v (OpW.assign rfl) rfl ?_ ?_ ?_); rfl; rfl) | (refine l_eql ?_; (first | refine SXl.v (OpW.eqlT rfl rfl (by omega)) rfl ?_ ?_ ?_ | refine SXl.v (OpW.eqlF rfl rfl (by omega)) rfl ?_ ?_ ?_); rfl; rfl) | (refine l_not ?_; (refine SXl.v (OpW.not rfl) rfl ?_ ?_ ?_); rfl; rfl) | (refine l_box ?_; refine SXl.box ?_ ?_ rfl rfl (fun g => ?_); rfl; rfl) | (rw [hv]) | refine SX.ret ?_ | refine SQ.thenRet ?_ | refine SQ.blockRet ?_)
    refine SQ.body1 rfl rfl (fun w' hl => ⟨rfl, hl.mod⟩)
  · have e : valText v = [110, 111, 110, 101] := by simp [valText, hv, k1, k2, k3]
    rw [e]
    repeat (first | refine SX.seq ?_ | refine SXl.nil ?_ | refine SX.region ?_ | refine SQ.thenNormal ?_ | refine SX.block ?_ | refine SX.skip ?_ | refine SX.condF rfl ?_ | (refine l_call ?_; (refine SXl.v (OpW.call rfl (fun w hl => svalueOk_any v _)) rfl ?_ ?_ ?_); rfl; rfl) | (refine l_load ?_; (first | refine SXl.v (OpW.load 0 rfl rfl rfl) rfl ?_ ?_ ?_ | refine SXl.v (OpW.loadAll 0 rfl rfl rfl) rfl ?_ ?_ ?_); rfl; rfl) | (refine l_fieldAddr ?_; (refine SXl.v (OpW.fieldAddr rfl) rfl ?_ ?_ ?_); rfl; rfl) | (refine l_assign ?_; (refine SXl.v (OpW.assign rfl) rfl ?_ ?_ ?_); rfl; rfl) | (refine l_eql ?_; (refine SXl.v (OpW.eqlF rfl rfl (by omega)) rfl ?_ ?_ ?_); rfl; rfl) | (refine l_not ?_; (refine SXl.v (OpW.not rfl) rfl ?_ ?_ ?_); rfl; rfl) | (refine l_box ?_; refine SXl.box ?_ ?_ rfl rfl (fun g => ?_); rfl; rfl) | (rw [hv]) | refine SX.ret ?_ | refine SQ.blockNormal ?_)
    refine SQ.body1 rfl rfl (fun w' hl => ⟨rfl, hl.mod⟩)

/-- A new style. -/
def newStyle : Style := { (default : Style) with dir := 2, wrap := 1, justify := 1, items := 1, content := 2 }
set_option maxRecDepth 100000 in
theorem styleNew_any (w : World) : Calls Tryz.prog 9 #[] w fun e w' => e = .returned (.agg newStyle.cells.toArray) ∧ Mod (fun _ => False) w w' := by
  refine calls_sx Tryz.func9 rfl rfl (fun a h1 h2 h3 => (Fr.nil h1 h2)) ?_
  repeat (first | refine SX.seq ?_ | refine SXl.nil ?_ | refine SX.region ?_ | refine SQ.thenNormal ?_ | (refine l_build ?_; (refine SXl.v ((OpW.build (cells := newStyle.cells) rfl (by kernel_rfl))) rfl ?_ ?_ ?_); rfl; rfl) | (refine l_alloc ?_; refine SXl.alloc ?_ ?_ (fun g => ?_); rfl; rfl) | (refine l_store ?_; first | (refine SXl.storeAll 0 ?_ rfl rfl rfl rfl rfl rfl rfl ?_; rfl; simp only [List.set_cons_zero, List.set_cons_succ]) | (refine SXl.storeAll 1 ?_ rfl rfl rfl rfl rfl rfl rfl ?_; rfl; simp only [List.set_cons_zero, List.set_cons_succ]) | (refine SXl.storeAll 2 ?_ rfl rfl rfl rfl rfl rfl rfl ?_; rfl; simp only [List.set_cons_zero, List.set_cons_succ]) | (refine SXl.storeRow 0 ?_ rfl rfl rfl rfl rfl rfl rfl ?_; rfl; simp only [over, List.set_cons_zero, List.set_cons_succ]) | (refine SXl.storeRow 1 ?_ rfl rfl rfl rfl rfl rfl rfl ?_; rfl; simp only [over, List.set_cons_zero, List.set_cons_succ]) | (refine SXl.storeRow 2 ?_ rfl rfl rfl rfl rfl rfl rfl ?_; rfl; simp only [over, List.set_cons_zero, List.set_cons_succ])) | refine SX.ret ?_)
  refine SQ.bodyCell 0 rfl rfl rfl rfl (fun w' hl => ⟨rfl, hl.mod⟩)
set_option maxRecDepth 100000 in
theorem sstyleNew_any (w : World) : Calls Tryz.prog 57 #[] w fun e w' => e = .returned (.agg newStyle.cells.toArray) ∧ Mod (fun _ => False) w w' := by
  refine calls_sx Tryz.func57 rfl rfl (fun a h1 h2 h3 => (Fr.nil h1 h2)) ?_
  repeat (first | refine SX.seq ?_ | refine SXl.nil ?_ | refine SX.region ?_ | refine SQ.thenNormal ?_ | (refine l_build ?_; (refine SXl.v ((OpW.build (cells := newStyle.cells) rfl (by kernel_rfl))) rfl ?_ ?_ ?_); rfl; rfl) | (refine l_alloc ?_; refine SXl.alloc ?_ ?_ (fun g => ?_); rfl; rfl) | (refine l_store ?_; first | (refine SXl.storeAll 0 ?_ rfl rfl rfl rfl rfl rfl rfl ?_; rfl; simp only [List.set_cons_zero, List.set_cons_succ]) | (refine SXl.storeAll 1 ?_ rfl rfl rfl rfl rfl rfl rfl ?_; rfl; simp only [List.set_cons_zero, List.set_cons_succ]) | (refine SXl.storeAll 2 ?_ rfl rfl rfl rfl rfl rfl rfl ?_; rfl; simp only [List.set_cons_zero, List.set_cons_succ]) | (refine SXl.storeRow 0 ?_ rfl rfl rfl rfl rfl rfl rfl ?_; rfl; simp only [over, List.set_cons_zero, List.set_cons_succ]) | (refine SXl.storeRow 1 ?_ rfl rfl rfl rfl rfl rfl rfl ?_; rfl; simp only [over, List.set_cons_zero, List.set_cons_succ]) | (refine SXl.storeRow 2 ?_ rfl rfl rfl rfl rfl rfl rfl ?_; rfl; simp only [over, List.set_cons_zero, List.set_cons_succ])) | refine SX.ret ?_)
  refine SQ.bodyCell 0 rfl rfl rfl rfl (fun w' hl => ⟨rfl, hl.mod⟩)

end Go.Proofs.YthffgbhphjkdeaaGreatDoor
namespace Go.Proofs.YthffgbhphjkdeaaGreatDoor
open Go.RowKit
set_option linter.unusedVariables false
set_option linter.unusedSimpArgs false

set_option maxRecDepth 100000 in
set_option maxHeartbeats 8000000 in
theorem l05Sides_d (B gc : Nat) (w : World) (hc : Cur B 75 w gc) : Calls Tryz.prog 58 #[.pointer (some ⟨gc, 0, none⟩)] w (DrewV 75 B gc w (fun v : Sides => .agg v.cells.toArray) (fun v => AllOk v.cells)) := by
  refine calls_draw (as_ := [.pointer (some ⟨gc, 0, none⟩)]) hc Tryz.func58 rfl rfl (fun a h1 h2 h3 => ((Fr.nil h1 h2).arg (h3 0 _ rfl))) ?_
  repeat (first | refine SX.seq ?_ | refine SXl.nil ?_ | refine SX.region ?_ | refine SQ.thenNormal ?_ | refine SX.block ?_ | (refine l_build ?_; (refine SXl.v ((OpW.build (vals := []) (cells := Sides.cells default) rfl (by kernel_rfl))) rfl ?_ ?_ ?_); rfl; rfl) | (refine l_assign ?_; (refine SXl.v (OpW.assign rfl) rfl ?_ ?_ ?_); rfl; rfl) | (refine l_alloc ?_; refine SXl.alloc ?_ ?_ (fun g => ?_); rfl; rfl) | (refine l_store ?_; first | (refine SXl.storeAll 0 ?_ rfl rfl rfl rfl rfl rfl rfl ?_; rfl; simp only [List.set_cons_zero, List.set_cons_succ]) | (refine SXl.storeAll 1 ?_ rfl rfl rfl rfl rfl rfl rfl ?_; rfl; simp only [List.set_cons_zero, List.set_cons_succ]) | (refine SXl.storeAll 2 ?_ rfl rfl rfl rfl rfl rfl rfl ?_; rfl; simp only [List.set_cons_zero, List.set_cons_succ]) | (refine SXl.storeRow 0 ?_ rfl rfl rfl rfl rfl rfl rfl ?_; rfl; simp only [over, List.set_cons_zero, List.set_cons_succ]) | (refine SXl.storeRow 1 ?_ rfl rfl rfl rfl rfl rfl rfl ?_; rfl; simp only [over, List.set_cons_zero, List.set_cons_succ]) | (refine SXl.storeRow 2 ?_ rfl rfl rfl rfl rfl rfl rfl ?_; rfl; simp only [over, List.set_cons_zero, List.set_cons_succ])))
  rename_i g2
  revert g; intro g3
  refine SX.loopi (ι := Nat × Sides) (fun i => i.1 ≤ 3 ∧ AllOk i.2.cells) (fun i => 4 - i.1) (fun i => [⟨g3, i.2.cells, 27⟩, ⟨g2, [.int .i64 0, .int .i64 0, .int .i64 0, .int .i64 0, .int .i64 0, .int .i64 0, .int .i64 0, .int .i64 0, .int .i64 0, .int .i64 0, .int .i64 0, .int .i64 0], 27⟩]) (fun _ => []) (fun _ => []) (fun i => [(0, .pointer (some ⟨gc, 0, none⟩)), (2, .pointer (some ⟨g2, 0, none⟩)), (3, .pointer (some ⟨g3, 0, none⟩)), (4, .int .i64 i.1)]) (0, default) ⟨by simp, allOk_of (by decide)⟩ ?_ (fun _ hl => hl) ?_
  · (repeat (first | exact subF_nil _ | (refine subF_cons rfl ?_) | (refine subF_consv rfl (by rfl) ?_)))
  rintro ⟨i, s⟩ ⟨hi, hs⟩
  simp only at hi hs
  repeat (first | refine SX.seq ?_ | refine SX.region ?_ | (refine l_move ?_; (refine SXl.v (OpW.move rfl) rfl ?_ ?_ ?_); rfl; rfl))
  refine l_call ?_
  refine SXl.draw (ξ := Int) (v := fun x : Int => .int .i64 x) rfl rfl rfl (fun x => 0 ≤ x ∧ x < 4) (fun w hl => below_d B gc w hl.inv 4 (by decide) (by decide)) (fun x hx => ?_)
  by_cases hlt : (i : Int) < x
  rotate_left
  · repeat (first | refine SX.seq ?_ | refine SXl.nil ?_ | refine SX.region ?_ | refine SQ.thenNormal ?_ | refine SX.condF rfl ?_ | (refine l_load ?_; (refine SXl.v (OpW.loadAll 0 rfl rfl rfl) rfl ?_ ?_ ?_); rfl; rfl) | (refine l_lss ?_; (refine SXl.v (OpW.lssF rfl rfl (by omega)) rfl ?_ ?_ ?_); rfl; rfl) | (refine l_store ?_; first | (refine SXl.storeAll 0 ?_ rfl rfl rfl rfl rfl rfl rfl ?_; rfl; simp only [List.set_cons_zero, List.set_cons_succ]) | (refine SXl.storeAll 1 ?_ rfl rfl rfl rfl rfl rfl rfl ?_; rfl; simp only [List.set_cons_zero, List.set_cons_succ]) | (refine SXl.storeAll 2 ?_ rfl rfl rfl rfl rfl rfl rfl ?_; rfl; simp only [List.set_cons_zero, List.set_cons_succ]) | (refine SXl.storeRow 0 ?_ rfl rfl rfl rfl rfl rfl rfl ?_; rfl; simp only [over, List.set_cons_zero, List.set_cons_succ]) | (refine SXl.storeRow 1 ?_ rfl rfl rfl rfl rfl rfl rfl ?_; rfl; simp only [over, List.set_cons_zero, List.set_cons_succ]) | (refine SXl.storeRow 2 ?_ rfl rfl rfl rfl rfl rfl rfl ?_; rfl; simp only [over, List.set_cons_zero, List.set_cons_succ])) | refine SX.ret ?_ | refine SX.exit ?_ | refine SQ.thenExit ?_ | refine SQ.blockExit ?_)
    refine SQ.bodyCell 1 rfl rfl rfl rfl (fun w' hl => ⟨s, rfl, hs, hl.mod, hl.inv⟩)
  repeat (first | refine SX.seq ?_ | refine SXl.nil ?_ | refine SX.region ?_ | refine SQ.thenNormal ?_ | refine SX.block ?_ | refine SX.skip ?_ | refine SX.condT rfl ?_ | (refine l_move ?_; (refine SXl.v (OpW.move rfl) rfl ?_ ?_ ?_); rfl; rfl) | (refine l_lss ?_; (refine SXl.v (OpW.lssT rfl rfl (by omega)) rfl ?_ ?_ ?_); rfl; rfl))
  refine l_call ?_
  refine SXl.draw (ξ := Val) (v := fun v => .agg v.cells.toArray) rfl rfl rfl (fun v => AllOk v.cells) (fun w hl => l04Value_d B gc w hl.inv) (fun v hv => ?_)
  repeat (first | refine SX.seq ?_ | refine SXl.nil ?_ | refine SX.region ?_ | refine SQ.thenNormal ?_ | (refine l_move ?_; (refine SXl.v (OpW.move rfl) rfl ?_ ?_ ?_); rfl; rfl) | (refine l_alloc ?_; refine SXl.alloc ?_ ?_ (fun g => ?_); rfl; rfl) | (refine l_store ?_; first | (refine SXl.storeAll 0 ?_ rfl rfl rfl rfl rfl rfl rfl ?_; rfl; simp only [List.set_cons_zero, List.set_cons_succ]) | (refine SXl.storeAll 1 ?_ rfl rfl rfl rfl rfl rfl rfl ?_; rfl; simp only [List.set_cons_zero, List.set_cons_succ]) | (refine SXl.storeAll 2 ?_ rfl rfl rfl rfl rfl rfl rfl ?_; rfl; simp only [List.set_cons_zero, List.set_cons_succ]) | (refine SXl.storeRow 0 ?_ rfl rfl rfl rfl rfl rfl rfl ?_; rfl; simp only [over, List.set_cons_zero, List.set_cons_succ]) | (refine SXl.storeRow 1 ?_ rfl rfl rfl rfl rfl rfl rfl ?_; rfl; simp only [over, List.set_cons_zero, List.set_cons_succ]) | (refine SXl.storeRow 2 ?_ rfl rfl rfl rfl rfl rfl rfl ?_; rfl; simp only [over, List.set_cons_zero, List.set_cons_succ])))
  refine l_call ?_
  refine SXl.draw (ξ := Bool) (v := fun b => .bool b) rfl rfl rfl (fun _ => True) (fun w hl => once_d B gc w hl.inv 4 (by decide)) (fun b _ => ?_)
  cases b
  · repeat (first | refine SX.seq ?_ | refine SXl.nil ?_ | refine SX.region ?_ | refine SQ.thenNormal ?_ | refine SX.skip ?_ | refine SX.condF rfl ?_ | (refine l_move ?_; (refine SXl.v (OpW.move rfl) rfl ?_ ?_ ?_); rfl; rfl))
    refine l_call ?_
    refine SXl.draw (ξ := Int) (v := fun x : Int => .int .i64 x) rfl rfl rfl (fun x => 0 ≤ x ∧ x < 6) (fun w hl => below_d B gc w hl.inv 6 (by decide) (by decide)) (fun y hy => ?_)
    by_cases h0 : y = 0
    · repeat (first | refine SX.seq ?_ | refine SXl.nil ?_ | refine SX.region ?_ | refine SQ.thenNormal ?_ | refine SX.block ?_ | refine SX.condT rfl ?_ | (refine l_load ?_; (refine SXl.v (OpW.loadAll 0 rfl rfl rfl) rfl ?_ ?_ ?_); rfl; rfl) | (refine l_fieldAddr ?_; (refine SXl.v (OpW.fieldAddr rfl) rfl ?_ ?_ ?_); rfl; rfl) | (refine l_move ?_; (refine SXl.v (OpW.move rfl) rfl ?_ ?_ ?_); rfl; rfl) | (refine l_assign ?_; (refine SXl.v (OpW.assign rfl) rfl ?_ ?_ ?_); rfl; rfl) | (refine l_add ?_; (refine SXl.v (OpW.succ rfl rfl (by omega)) rfl ?_ ?_ ?_); rfl; rfl) | (refine l_eql ?_; (refine SXl.v (OpW.eqlT rfl rfl (by omega)) rfl ?_ ?_ ?_); rfl; rfl) | (refine l_store ?_; first | (refine SXl.storeAll 0 ?_ rfl rfl rfl rfl rfl rfl rfl ?_; rfl; simp only [List.set_cons_zero, List.set_cons_succ]) | (refine SXl.storeAll 1 ?_ rfl rfl rfl rfl rfl rfl rfl ?_; rfl; simp only [List.set_cons_zero, List.set_cons_succ]) | (refine SXl.storeAll 2 ?_ rfl rfl rfl rfl rfl rfl rfl ?_; rfl; simp only [List.set_cons_zero, List.set_cons_succ]) | (refine SXl.storeRow 0 ?_ rfl rfl rfl rfl rfl rfl rfl ?_; rfl; simp only [over, List.set_cons_zero, List.set_cons_succ]) | (refine SXl.storeRow 1 ?_ rfl rfl rfl rfl rfl rfl rfl ?_; rfl; simp only [over, List.set_cons_zero, List.set_cons_succ]) | (refine SXl.storeRow 2 ?_ rfl rfl rfl rfl rfl rfl rfl ?_; rfl; simp only [over, List.set_cons_zero, List.set_cons_succ])) | refine SQ.blockNormal ?_)
      refine SQ.roundi (i + 1, { s with left := v }) ⟨by simp only; omega, AllOk.over (j := 0) hs hv⟩ (by simp only; omega) ?_ (fun _ hl => hl.drop1)
      (repeat (first | exact subF_nil _ | (refine subF_cons rfl ?_) | (refine subF_consv rfl (by rfl) ?_)))
    by_cases h1 : y = 1
    · repeat (first | refine SX.seq ?_ | refine SXl.nil ?_ | refine SX.region ?_ | refine SQ.thenNormal ?_ | refine SX.block ?_ | refine SX.condT rfl ?_ | refine SX.condF rfl ?_ | (refine l_load ?_; (refine SXl.v (OpW.loadAll 0 rfl rfl rfl) rfl ?_ ?_ ?_); rfl; rfl) | (refine l_fieldAddr ?_; (refine SXl.v (OpW.fieldAddr rfl) rfl ?_ ?_ ?_); rfl; rfl) | (refine l_move ?_; (refine SXl.v (OpW.move rfl) rfl ?_ ?_ ?_); rfl; rfl) | (refine l_assign ?_; (refine SXl.v (OpW.assign rfl) rfl ?_ ?_ ?_); rfl; rfl) | (refine l_add ?_; (refine SXl.v (OpW.succ rfl rfl (by omega)) rfl ?_ ?_ ?_); rfl; rfl) | (refine l_eql ?_; (first | refine SXl.v (OpW.eqlT rfl rfl (by omega)) rfl ?_ ?_ ?_ | refine SXl.v (OpW.eqlF rfl rfl (by omega)) rfl ?_ ?_ ?_); rfl; rfl) | (refine l_store ?_; first | (refine SXl.storeAll 0 ?_ rfl rfl rfl rfl rfl rfl rfl ?_; rfl; simp only [List.set_cons_zero, List.set_cons_succ]) | (refine SXl.storeAll 1 ?_ rfl rfl rfl rfl rfl rfl rfl ?_; rfl; simp only [List.set_cons_zero, List.set_cons_succ]) | (refine SXl.storeAll 2 ?_ rfl rfl rfl rfl rfl rfl rfl ?_; rfl; simp only [List.set_cons_zero, List.set_cons_succ]) | (refine SXl.storeRow 0 ?_ rfl rfl rfl rfl rfl rfl rfl ?_; rfl; simp only [over, List.set_cons_zero, List.set_cons_succ]) | (refine SXl.storeRow 1 ?_ rfl rfl rfl rfl rfl rfl rfl ?_; rfl; simp only [over, List.set_cons_zero, List.set_cons_succ]) | (refine SXl.storeRow 2 ?_ rfl rfl rfl rfl rfl rfl rfl ?_; rfl; simp only [over, List.set_cons_zero, List.set_cons_succ])) | refine SQ.blockNormal ?_)
      refine SQ.roundi (i + 1, { s with top := v }) ⟨by simp only; omega, AllOk.over (j := 2) hs hv⟩ (by simp only; omega) ?_ (fun _ hl => hl.drop1)
      (repeat (first | exact subF_nil _ | (refine subF_cons rfl ?_) | (refine subF_consv rfl (by rfl) ?_)))
    by_cases h2 : y = 2
    · repeat (first | refine SX.seq ?_ | refine SXl.nil ?_ | refine SX.region ?_ | refine SQ.thenNormal ?_ | refine SX.block ?_ | refine SX.condT rfl ?_ | refine SX.condF rfl ?_ | (refine l_load ?_; (refine SXl.v (OpW.loadAll 0 rfl rfl rfl) rfl ?_ ?_ ?_); rfl; rfl) | (refine l_fieldAddr ?_; (refine SXl.v (OpW.fieldAddr rfl) rfl ?_ ?_ ?_); rfl; rfl) | (refine l_move ?_; (refine SXl.v (OpW.move rfl) rfl ?_ ?_ ?_); rfl; rfl) | (refine l_assign ?_; (refine SXl.v (OpW.assign rfl) rfl ?_ ?_ ?_); rfl; rfl) | (refine l_add ?_; (refine SXl.v (OpW.succ rfl rfl (by omega)) rfl ?_ ?_ ?_); rfl; rfl) | (refine l_eql ?_; (first | refine SXl.v (OpW.eqlT rfl rfl (by omega)) rfl ?_ ?_ ?_ | refine SXl.v (OpW.eqlF rfl rfl (by omega)) rfl ?_ ?_ ?_); rfl; rfl) | (refine l_store ?_; first | (refine SXl.storeAll 0 ?_ rfl rfl rfl rfl rfl rfl rfl ?_; rfl; simp only [List.set_cons_zero, List.set_cons_succ]) | (refine SXl.storeAll 1 ?_ rfl rfl rfl rfl rfl rfl rfl ?_; rfl; simp only [List.set_cons_zero, List.set_cons_succ]) | (refine SXl.storeAll 2 ?_ rfl rfl rfl rfl rfl rfl rfl ?_; rfl; simp only [List.set_cons_zero, List.set_cons_succ]) | (refine SXl.storeRow 0 ?_ rfl rfl rfl rfl rfl rfl rfl ?_; rfl; simp only [over, List.set_cons_zero, List.set_cons_succ]) | (refine SXl.storeRow 1 ?_ rfl rfl rfl rfl rfl rfl rfl ?_; rfl; simp only [over, List.set_cons_zero, List.set_cons_succ]) | (refine SXl.storeRow 2 ?_ rfl rfl rfl rfl rfl rfl rfl ?_; rfl; simp only [over, List.set_cons_zero, List.set_cons_succ])) | refine SQ.blockNormal ?_)
      refine SQ.roundi (i + 1, { s with right := v }) ⟨by simp only; omega, AllOk.over (j := 4) hs hv⟩ (by simp only; omega) ?_ (fun _ hl => hl.drop1)
      (repeat (first | exact subF_nil _ | (refine subF_cons rfl ?_) | (refine subF_consv rfl (by rfl) ?_)))
    by_cases h3 : y = 3
    · repeat (first | refine SX.seq ?_ | refine SXl.nil ?_ | refine SX.region ?_ | refine SQ.thenNormal ?_ | refine SX.block ?_ | refine SX.condT rfl ?_ | refine SX.condF rfl ?_ | (refine l_load ?_; (refine SXl.v (OpW.loadAll 0 rfl rfl rfl) rfl ?_ ?_ ?_); rfl; rfl) | (refine l_fieldAddr ?_; (refine SXl.v (OpW.fieldAddr rfl) rfl ?_ ?_ ?_); rfl; rfl) | (refine l_move ?_; (refine SXl.v (OpW.move rfl) rfl ?_ ?_ ?_); rfl; rfl) | (refine l_assign ?_; (refine SXl.v (OpW.assign rfl) rfl ?_ ?_ ?_); rfl; rfl) | (refine l_add ?_; (refine SXl.v (OpW.succ rfl rfl (by omega)) rfl ?_ ?_ ?_); rfl; rfl) | (refine l_eql ?_; (first | refine SXl.v (OpW.eqlT rfl rfl (by omega)) rfl ?_ ?_ ?_ | refine SXl.v (OpW.eqlF rfl rfl (by omega)) rfl ?_ ?_ ?_); rfl; rfl) | (refine l_store ?_; first | (refine SXl.storeAll 0 ?_ rfl rfl rfl rfl rfl rfl rfl ?_; rfl; simp only [List.set_cons_zero, List.set_cons_succ]) | (refine SXl.storeAll 1 ?_ rfl rfl rfl rfl rfl rfl rfl ?_; rfl; simp only [List.set_cons_zero, List.set_cons_succ]) | (refine SXl.storeAll 2 ?_ rfl rfl rfl rfl rfl rfl rfl ?_; rfl; simp only [List.set_cons_zero, List.set_cons_succ]) | (refine SXl.storeRow 0 ?_ rfl rfl rfl rfl rfl rfl rfl ?_; rfl; simp only [over, List.set_cons_zero, List.set_cons_succ]) | (refine SXl.storeRow 1 ?_ rfl rfl rfl rfl rfl rfl rfl ?_; rfl; simp only [over, List.set_cons_zero, List.set_cons_succ]) | (refine SXl.storeRow 2 ?_ rfl rfl rfl rfl rfl rfl rfl ?_; rfl; simp only [over, List.set_cons_zero, List.set_cons_succ])) | refine SQ.blockNormal ?_)
      refine SQ.roundi (i + 1, { s with bottom := v }) ⟨by simp only; omega, AllOk.over (j := 6) hs hv⟩ (by simp only; omega) ?_ (fun _ hl => hl.drop1)
      (repeat (first | exact subF_nil _ | (refine subF_cons rfl ?_) | (refine subF_consv rfl (by rfl) ?_)))
    by_cases h4 : y = 4
    · repeat (first | refine SX.seq ?_ | refine SXl.nil ?_ | refine SX.region ?_ | refine SQ.thenNormal ?_ | refine SX.block ?_ | refine SX.condT rfl ?_ | refine SX.condF rfl ?_ | (refine l_load ?_; (refine SXl.v (OpW.loadAll 0 rfl rfl rfl) rfl ?_ ?_ ?_); rfl; rfl) | (refine l_fieldAddr ?_; (refine SXl.v (OpW.fieldAddr rfl) rfl ?_ ?_ ?_); rfl; rfl) | (refine l_move ?_; (refine SXl.v (OpW.move rfl) rfl ?_ ?_ ?_); rfl; rfl) | (refine l_assign ?_; (refine SXl.v (OpW.assign rfl) rfl ?_ ?_ ?_); rfl; rfl) | (refine l_add ?_; (refine SXl.v (OpW.succ rfl rfl (by omega)) rfl ?_ ?_ ?_); rfl; rfl) | (refine l_eql ?_; (first | refine SXl.v (OpW.eqlT rfl rfl (by omega)) rfl ?_ ?_ ?_ | refine SXl.v (OpW.eqlF rfl rfl (by omega)) rfl ?_ ?_ ?_); rfl; rfl) | (refine l_store ?_; first | (refine SXl.storeAll 0 ?_ rfl rfl rfl rfl rfl rfl rfl ?_; rfl; simp only [List.set_cons_zero, List.set_cons_succ]) | (refine SXl.storeAll 1 ?_ rfl rfl rfl rfl rfl rfl rfl ?_; rfl; simp only [List.set_cons_zero, List.set_cons_succ]) | (refine SXl.storeAll 2 ?_ rfl rfl rfl rfl rfl rfl rfl ?_; rfl; simp only [List.set_cons_zero, List.set_cons_succ]) | (refine SXl.storeRow 0 ?_ rfl rfl rfl rfl rfl rfl rfl ?_; rfl; simp only [over, List.set_cons_zero, List.set_cons_succ]) | (refine SXl.storeRow 1 ?_ rfl rfl rfl rfl rfl rfl rfl ?_; rfl; simp only [over, List.set_cons_zero, List.set_cons_succ]) | (refine SXl.storeRow 2 ?_ rfl rfl rfl rfl rfl rfl rfl ?_; rfl; simp only [over, List.set_cons_zero, List.set_cons_succ])) | refine SQ.blockNormal ?_)
      refine SQ.roundi (i + 1, { s with start := v }) ⟨by simp only; omega, AllOk.over (j := 8) hs hv⟩ (by simp only; omega) ?_ (fun _ hl => hl.drop1)
      (repeat (first | exact subF_nil _ | (refine subF_cons rfl ?_) | (refine subF_consv rfl (by rfl) ?_)))
    repeat (first | refine SX.seq ?_ | refine SXl.nil ?_ | refine SX.region ?_ | refine SQ.thenNormal ?_ | refine SX.block ?_ | refine SX.condF rfl ?_ | (refine l_load ?_; (refine SXl.v (OpW.loadAll 0 rfl rfl rfl) rfl ?_ ?_ ?_); rfl; rfl) | (refine l_fieldAddr ?_; (refine SXl.v (OpW.fieldAddr rfl) rfl ?_ ?_ ?_); rfl; rfl) | (refine l_move ?_; (refine SXl.v (OpW.move rfl) rfl ?_ ?_ ?_); rfl; rfl) | (refine l_assign ?_; (refine SXl.v (OpW.assign rfl) rfl ?_ ?_ ?_); rfl; rfl) | (refine l_add ?_; (refine SXl.v (OpW.succ rfl rfl (by omega)) rfl ?_ ?_ ?_); rfl; rfl) | (refine l_eql ?_; (refine SXl.v (OpW.eqlF rfl rfl (by omega)) rfl ?_ ?_ ?_); rfl; rfl) | (refine l_store ?_; first | (refine SXl.storeAll 0 ?_ rfl rfl rfl rfl rfl rfl rfl ?_; rfl; simp only [List.set_cons_zero, List.set_cons_succ]) | (refine SXl.storeAll 1 ?_ rfl rfl rfl rfl rfl rfl rfl ?_; rfl; simp only [List.set_cons_zero, List.set_cons_succ]) | (refine SXl.storeAll 2 ?_ rfl rfl rfl rfl rfl rfl rfl ?_; rfl; simp only [List.set_cons_zero, List.set_cons_succ]) | (refine SXl.storeRow 0 ?_ rfl rfl rfl rfl rfl rfl rfl ?_; rfl; simp only [over, List.set_cons_zero, List.set_cons_succ]) | (refine SXl.storeRow 1 ?_ rfl rfl rfl rfl rfl rfl rfl ?_; rfl; simp only [over, List.set_cons_zero, List.set_cons_succ]) | (refine SXl.storeRow 2 ?_ rfl rfl rfl rfl rfl rfl rfl ?_; rfl; simp only [over, List.set_cons_zero, List.set_cons_succ])) | refine SQ.blockNormal ?_)
    refine SQ.roundi (i + 1, { s with stop := v }) ⟨by simp only; omega, AllOk.over (j := 10) hs hv⟩ (by simp only; omega) ?_ (fun _ hl => hl.drop1)
    (repeat (first | exact subF_nil _ | (refine subF_cons rfl ?_) | (refine subF_consv rfl (by rfl) ?_)))
  · repeat (first | refine SX.seq ?_ | refine SXl.nil ?_ | refine SX.region ?_ | refine SQ.thenNormal ?_ | refine SX.condT rfl ?_ | (refine l_build ?_; (refine SXl.v ((OpW.build (vals := [(0, .int .i64 3)]) (cells := Val.cells ⟨3, 0⟩) rfl (by kernel_rfl))) rfl ?_ ?_ ?_); rfl; rfl) | (refine l_move ?_; (refine SXl.v (OpW.move rfl) rfl ?_ ?_ ?_); rfl; rfl) | (refine l_store ?_; first | (refine SXl.storeAll 0 ?_ rfl rfl rfl rfl rfl rfl rfl ?_; rfl; simp only [List.set_cons_zero, List.set_cons_succ]) | (refine SXl.storeAll 1 ?_ rfl rfl rfl rfl rfl rfl rfl ?_; rfl; simp only [List.set_cons_zero, List.set_cons_succ]) | (refine SXl.storeAll 2 ?_ rfl rfl rfl rfl rfl rfl rfl ?_; rfl; simp only [List.set_cons_zero, List.set_cons_succ]) | (refine SXl.storeRow 0 ?_ rfl rfl rfl rfl rfl rfl rfl ?_; rfl; simp only [over, List.set_cons_zero, List.set_cons_succ]) | (refine SXl.storeRow 1 ?_ rfl rfl rfl rfl rfl rfl rfl ?_; rfl; simp only [over, List.set_cons_zero, List.set_cons_succ]) | (refine SXl.storeRow 2 ?_ rfl rfl rfl rfl rfl rfl rfl ?_; rfl; simp only [over, List.set_cons_zero, List.set_cons_succ])))
    refine l_call ?_
    refine SXl.draw (ξ := Int) (v := fun x : Int => .int .i64 x) rfl rfl rfl (fun x => 0 ≤ x ∧ x < 6) (fun w hl => below_d B gc w hl.inv 6 (by decide) (by decide)) (fun y hy => ?_)
    by_cases h0 : y = 0
    · repeat (first | refine SX.seq ?_ | refine SXl.nil ?_ | refine SX.region ?_ | refine SQ.thenNormal ?_ | refine SX.block ?_ | refine SX.condT rfl ?_ | (refine l_load ?_; (refine SXl.v (OpW.loadAll 0 rfl rfl rfl) rfl ?_ ?_ ?_); rfl; rfl) | (refine l_fieldAddr ?_; (refine SXl.v (OpW.fieldAddr rfl) rfl ?_ ?_ ?_); rfl; rfl) | (refine l_move ?_; (refine SXl.v (OpW.move rfl) rfl ?_ ?_ ?_); rfl; rfl) | (refine l_assign ?_; (refine SXl.v (OpW.assign rfl) rfl ?_ ?_ ?_); rfl; rfl) | (refine l_add ?_; (refine SXl.v (OpW.succ rfl rfl (by omega)) rfl ?_ ?_ ?_); rfl; rfl) | (refine l_eql ?_; (refine SXl.v (OpW.eqlT rfl rfl (by omega)) rfl ?_ ?_ ?_); rfl; rfl) | (refine l_store ?_; first | (refine SXl.storeAll 0 ?_ rfl rfl rfl rfl rfl rfl rfl ?_; rfl; simp only [List.set_cons_zero, List.set_cons_succ]) | (refine SXl.storeAll 1 ?_ rfl rfl rfl rfl rfl rfl rfl ?_; rfl; simp only [List.set_cons_zero, List.set_cons_succ]) | (refine SXl.storeAll 2 ?_ rfl rfl rfl rfl rfl rfl rfl ?_; rfl; simp only [List.set_cons_zero, List.set_cons_succ]) | (refine SXl.storeRow 0 ?_ rfl rfl rfl rfl rfl rfl rfl ?_; rfl; simp only [over, List.set_cons_zero, List.set_cons_succ]) | (refine SXl.storeRow 1 ?_ rfl rfl rfl rfl rfl rfl rfl ?_; rfl; simp only [over, List.set_cons_zero, List.set_cons_succ]) | (refine SXl.storeRow 2 ?_ rfl rfl rfl rfl rfl rfl rfl ?_; rfl; simp only [over, List.set_cons_zero, List.set_cons_succ])) | refine SQ.blockNormal ?_)
      refine SQ.roundi (i + 1, { s with left := ⟨3, 0⟩ }) ⟨by simp only; omega, AllOk.over (j := 0) hs (allOk_of (c := Val.cells ⟨3, 0⟩) (by decide))⟩ (by simp only; omega) ?_ (fun _ hl => hl.drop1)
      (repeat (first | exact subF_nil _ | (refine subF_cons rfl ?_) | (refine subF_consv rfl (by rfl) ?_)))
    by_cases h1 : y = 1
    · repeat (first | refine SX.seq ?_ | refine SXl.nil ?_ | refine SX.region ?_ | refine SQ.thenNormal ?_ | refine SX.block ?_ | refine SX.condT rfl ?_ | refine SX.condF rfl ?_ | (refine l_load ?_; (refine SXl.v (OpW.loadAll 0 rfl rfl rfl) rfl ?_ ?_ ?_); rfl; rfl) | (refine l_fieldAddr ?_; (refine SXl.v (OpW.fieldAddr rfl) rfl ?_ ?_ ?_); rfl; rfl) | (refine l_move ?_; (refine SXl.v (OpW.move rfl) rfl ?_ ?_ ?_); rfl; rfl) | (refine l_assign ?_; (refine SXl.v (OpW.assign rfl) rfl ?_ ?_ ?_); rfl; rfl) | (refine l_add ?_; (refine SXl.v (OpW.succ rfl rfl (by omega)) rfl ?_ ?_ ?_); rfl; rfl) | (refine l_eql ?_; (first | refine SXl.v (OpW.eqlT rfl rfl (by omega)) rfl ?_ ?_ ?_ | refine SXl.v (OpW.eqlF rfl rfl (by omega)) rfl ?_ ?_ ?_); rfl; rfl) | (refine l_store ?_; first | (refine SXl.storeAll 0 ?_ rfl rfl rfl rfl rfl rfl rfl ?_; rfl; simp only [List.set_cons_zero, List.set_cons_succ]) | (refine SXl.storeAll 1 ?_ rfl rfl rfl rfl rfl rfl rfl ?_; rfl; simp only [List.set_cons_zero, List.set_cons_succ]) | (refine SXl.storeAll 2 ?_ rfl rfl rfl rfl rfl rfl rfl ?_; rfl; simp only [List.set_cons_zero, List.set_cons_succ]) | (refine SXl.storeRow 0 ?_ rfl rfl rfl rfl rfl rfl rfl ?_; rfl; simp only [over, List.set_cons_zero, List.set_cons_succ]) | (refine SXl.storeRow 1 ?_ rfl rfl rfl rfl rfl rfl rfl ?_; rfl; simp only [over, List.set_cons_zero, List.set_cons_succ]) | (refine SXl.storeRow 2 ?_ rfl rfl rfl rfl rfl rfl rfl ?_; rfl; simp only [over, List.set_cons_zero, List.set_cons_succ])) | refine SQ.blockNormal ?_)
      refine SQ.roundi (i + 1, { s with top := ⟨3, 0⟩ }) ⟨by simp only; omega, AllOk.over (j := 2) hs (allOk_of (c := Val.cells ⟨3, 0⟩) (by decide))⟩ (by simp only; omega) ?_ (fun _ hl => hl.drop1)
      (repeat (first | exact subF_nil _ | (refine subF_cons rfl ?_) | (refine subF_consv rfl (by rfl) ?_)))
    by_cases h2 : y = 2
    · repeat (first | refine SX.seq ?_ | refine SXl.nil ?_ | refine SX.region ?_ | refine SQ.thenNormal ?_ | refine SX.block ?_ | refine SX.condT rfl ?_ | refine SX.condF rfl ?_ | (refine l_load ?_; (refine SXl.v (OpW.loadAll 0 rfl rfl rfl) rfl ?_ ?_ ?_); rfl; rfl) | (refine l_fieldAddr ?_; (refine SXl.v (OpW.fieldAddr rfl) rfl ?_ ?_ ?_); rfl; rfl) | (refine l_move ?_; (refine SXl.v (OpW.move rfl) rfl ?_ ?_ ?_); rfl; rfl) | (refine l_assign ?_; (refine SXl.v (OpW.assign rfl) rfl ?_ ?_ ?_); rfl; rfl) | (refine l_add ?_; (refine SXl.v (OpW.succ rfl rfl (by omega)) rfl ?_ ?_ ?_); rfl; rfl) | (refine l_eql ?_; (first | refine SXl.v (OpW.eqlT rfl rfl (by omega)) rfl ?_ ?_ ?_ | refine SXl.v (OpW.eqlF rfl rfl (by omega)) rfl ?_ ?_ ?_); rfl; rfl) | (refine l_store ?_; first | (refine SXl.storeAll 0 ?_ rfl rfl rfl rfl rfl rfl rfl ?_; rfl; simp only [List.set_cons_zero, List.set_cons_succ]) | (refine SXl.storeAll 1 ?_ rfl rfl rfl rfl rfl rfl rfl ?_; rfl; simp only [List.set_cons_zero, List.set_cons_succ]) | (refine SXl.storeAll 2 ?_ rfl rfl rfl rfl rfl rfl rfl ?_; rfl; simp only [List.set_cons_zero, List.set_cons_succ]) | (refine SXl.storeRow 0 ?_ rfl rfl rfl rfl rfl rfl rfl ?_; rfl; simp only [over, List.set_cons_zero, List.set_cons_succ]) | (refine SXl.storeRow 1 ?_ rfl rfl rfl rfl rfl rfl rfl ?_; rfl; simp only [over, List.set_cons_zero, List.set_cons_succ]) | (refine SXl.storeRow 2 ?_ rfl rfl rfl rfl rfl rfl rfl ?_; rfl; simp only [over, List.set_cons_zero, List.set_cons_succ])) | refine SQ.blockNormal ?_)
      refine SQ.roundi (i + 1, { s with right := ⟨3, 0⟩ }) ⟨by simp only; omega, AllOk.over (j := 4) hs (allOk_of (c := Val.cells ⟨3, 0⟩) (by decide))⟩ (by simp only; omega) ?_ (fun _ hl => hl.drop1)
      (repeat (first | exact subF_nil _ | (refine subF_cons rfl ?_) | (refine subF_consv rfl (by rfl) ?_)))
    by_cases h3 : y = 3
    · repeat (first | refine SX.seq ?_ | refine SXl.nil ?_ | refine SX.region ?_ | refine SQ.thenNormal ?_ | refine SX.block ?_ | refine SX.condT rfl ?_ | refine SX.condF rfl ?_ | (refine l_load ?_; (refine SXl.v (OpW.loadAll 0 rfl rfl rfl) rfl ?_ ?_ ?_); rfl; rfl) | (refine l_fieldAddr ?_; (refine SXl.v (OpW.fieldAddr rfl) rfl ?_ ?_ ?_); rfl; rfl) | (refine l_move ?_; (refine SXl.v (OpW.move rfl) rfl ?_ ?_ ?_); rfl; rfl) | (refine l_assign ?_; (refine SXl.v (OpW.assign rfl) rfl ?_ ?_ ?_); rfl; rfl) | (refine l_add ?_; (refine SXl.v (OpW.succ rfl rfl (by omega)) rfl ?_ ?_ ?_); rfl; rfl) | (refine l_eql ?_; (first | refine SXl.v (OpW.eqlT rfl rfl (by omega)) rfl ?_ ?_ ?_ | refine SXl.v (OpW.eqlF rfl rfl (by omega)) rfl ?_ ?_ ?_); rfl; rfl) | (refine l_store ?_; first | (refine SXl.storeAll 0 ?_ rfl rfl rfl rfl rfl rfl rfl ?_; rfl; simp only [List.set_cons_zero, List.set_cons_succ]) | (refine SXl.storeAll 1 ?_ rfl rfl rfl rfl rfl rfl rfl ?_; rfl; simp only [List.set_cons_zero, List.set_cons_succ]) | (refine SXl.storeAll 2 ?_ rfl rfl rfl rfl rfl rfl rfl ?_; rfl; simp only [List.set_cons_zero, List.set_cons_succ]) | (refine SXl.storeRow 0 ?_ rfl rfl rfl rfl rfl rfl rfl ?_; rfl; simp only [over, List.set_cons_zero, List.set_cons_succ]) | (refine SXl.storeRow 1 ?_ rfl rfl rfl rfl rfl rfl rfl ?_; rfl; simp only [over, List.set_cons_zero, List.set_cons_succ]) | (refine SXl.storeRow 2 ?_ rfl rfl rfl rfl rfl rfl rfl ?_; rfl; simp only [over, List.set_cons_zero, List.set_cons_succ])) | refine SQ.blockNormal ?_)
      refine SQ.roundi (i + 1, { s with bottom := ⟨3, 0⟩ }) ⟨by simp only; omega, AllOk.over (j := 6) hs (allOk_of (c := Val.cells ⟨3, 0⟩) (by decide))⟩ (by simp only; omega) ?_ (fun _ hl => hl.drop1)
      (repeat (first | exact subF_nil _ | (refine subF_cons rfl ?_) | (refine subF_consv rfl (by rfl) ?_)))
    by_cases h4 : y = 4
    · repeat (first | refine SX.seq ?_ | refine SXl.nil ?_ | refine SX.region ?_ | refine SQ.thenNormal ?_ | refine SX.block ?_ | refine SX.condT rfl ?_ | refine SX.condF rfl ?_ | (refine l_load ?_; (refine SXl.v (OpW.loadAll 0 rfl rfl rfl) rfl ?_ ?_ ?_); rfl; rfl) | (refine l_fieldAddr ?_; (refine SXl.v (OpW.fieldAddr rfl) rfl ?_ ?_ ?_); rfl; rfl) | (refine l_move ?_; (refine SXl.v (OpW.move rfl) rfl ?_ ?_ ?_); rfl; rfl) | (refine l_assign ?_; (refine SXl.v (OpW.assign rfl) rfl ?_ ?_ ?_); rfl; rfl) | (refine l_add ?_; (refine SXl.v (OpW.succ rfl rfl (by omega)) rfl ?_ ?_ ?_); rfl; rfl) | (refine l_eql ?_; (first | refine SXl.v (OpW.eqlT rfl rfl (by omega)) rfl ?_ ?_ ?_ | refine SXl.v (OpW.eqlF rfl rfl (by omega)) rfl ?_ ?_ ?_); rfl; rfl) | (refine l_store ?_; first | (refine SXl.storeAll 0 ?_ rfl rfl rfl rfl rfl rfl rfl ?_; rfl; simp only [List.set_cons_zero, List.set_cons_succ]) | (refine SXl.storeAll 1 ?_ rfl rfl rfl rfl rfl rfl rfl ?_; rfl; simp only [List.set_cons_zero, List.set_cons_succ]) | (refine SXl.storeAll 2 ?_ rfl rfl rfl rfl rfl rfl rfl ?_; rfl; simp only [List.set_cons_zero, List.set_cons_succ]) | (refine SXl.storeRow 0 ?_ rfl rfl rfl rfl rfl rfl rfl ?_; rfl; simp only [over, List.set_cons_zero, List.set_cons_succ]) | (refine SXl.storeRow 1 ?_ rfl rfl rfl rfl rfl rfl rfl ?_; rfl; simp only [over, List.set_cons_zero, List.set_cons_succ]) | (refine SXl.storeRow 2 ?_ rfl rfl rfl rfl rfl rfl rfl ?_; rfl; simp only [over, List.set_cons_zero, List.set_cons_succ])) | refine SQ.blockNormal ?_)
      refine SQ.roundi (i + 1, { s with start := ⟨3, 0⟩ }) ⟨by simp only; omega, AllOk.over (j := 8) hs (allOk_of (c := Val.cells ⟨3, 0⟩) (by decide))⟩ (by simp only; omega) ?_ (fun _ hl => hl.drop1)
      (repeat (first | exact subF_nil _ | (refine subF_cons rfl ?_) | (refine subF_consv rfl (by rfl) ?_)))
    repeat (first | refine SX.seq ?_ | refine SXl.nil ?_ | refine SX.region ?_ | refine SQ.thenNormal ?_ | refine SX.block ?_ | refine SX.condF rfl ?_ | (refine l_load ?_; (refine SXl.v (OpW.loadAll 0 rfl rfl rfl) rfl ?_ ?_ ?_); rfl; rfl) | (refine l_fieldAddr ?_; (refine SXl.v (OpW.fieldAddr rfl) rfl ?_ ?_ ?_); rfl; rfl) | (refine l_move ?_; (refine SXl.v (OpW.move rfl) rfl ?_ ?_ ?_); rfl; rfl) | (refine l_assign ?_; (refine SXl.v (OpW.assign rfl) rfl ?_ ?_ ?_); rfl; rfl) | (refine l_add ?_; (refine SXl.v (OpW.succ rfl rfl (by omega)) rfl ?_ ?_ ?_); rfl; rfl) | (refine l_eql ?_; (refine SXl.v (OpW.eqlF rfl rfl (by omega)) rfl ?_ ?_ ?_); rfl; rfl) | (refine l_store ?_; first | (refine SXl.storeAll 0 ?_ rfl rfl rfl rfl rfl rfl rfl ?_; rfl; simp only [List.set_cons_zero, List.set_cons_succ]) | (refine SXl.storeAll 1 ?_ rfl rfl rfl rfl rfl rfl rfl ?_; rfl; simp only [List.set_cons_zero, List.set_cons_succ]) | (refine SXl.storeAll 2 ?_ rfl rfl rfl rfl rfl rfl rfl ?_; rfl; simp only [List.set_cons_zero, List.set_cons_succ]) | (refine SXl.storeRow 0 ?_ rfl rfl rfl rfl rfl rfl rfl ?_; rfl; simp only [over, List.set_cons_zero, List.set_cons_succ]) | (refine SXl.storeRow 1 ?_ rfl rfl rfl rfl rfl rfl rfl ?_; rfl; simp only [over, List.set_cons_zero, List.set_cons_succ]) | (refine SXl.storeRow 2 ?_ rfl rfl rfl rfl rfl rfl rfl ?_; rfl; simp only [over, List.set_cons_zero, List.set_cons_succ])) | refine SQ.blockNormal ?_)
    refine SQ.roundi (i + 1, { s with stop := ⟨3, 0⟩ }) ⟨by simp only; omega, AllOk.over (j := 10) hs (allOk_of (c := Val.cells ⟨3, 0⟩) (by decide))⟩ (by simp only; omega) ?_ (fun _ hl => hl.drop1)
    (repeat (first | exact subF_nil _ | (refine subF_cons rfl ?_) | (refine subF_consv rfl (by rfl) ?_)))

set_option maxRecDepth 100000 in
set_option maxHeartbeats 8000000 in
theorem l05Any_d (B gc : Nat) (w : World) (hc : Cur B 75 w gc) : Calls Tryz.prog 43 #[.pointer (some ⟨gc, 0, none⟩)] w (DrewV 75 B gc w (fun v : Sides => .agg v.cells.toArray) (fun v => AllOk v.cells)) := by
  refine calls_draw (as_ := [.pointer (some ⟨gc, 0, none⟩)]) hc Tryz.func43 rfl rfl (fun a h1 h2 h3 => ((Fr.nil h1 h2).arg (h3 0 _ rfl))) ?_
  repeat (first | refine SX.seq ?_ | refine SXl.nil ?_ | refine SX.region ?_ | refine SQ.thenNormal ?_ | (refine l_move ?_; (refine SXl.v (OpW.move rfl) rfl ?_ ?_ ?_); rfl; rfl) | (refine l_alloc ?_; refine SXl.alloc ?_ ?_ (fun g => ?_); rfl; rfl))
  refine l_call ?_
  refine SXl.draw (ξ := Sides) (v := fun v => .agg v.cells.toArray) rfl rfl rfl (fun v => AllOk v.cells) (fun w hl => l05Sides_d B gc w hl.inv) (fun s hs => ?_)
  repeat (first | refine SX.seq ?_ | refine SXl.nil ?_ | refine SX.region ?_ | refine SQ.thenNormal ?_ | (refine l_move ?_; (refine SXl.v (OpW.move rfl) rfl ?_ ?_ ?_); rfl; rfl) | (refine l_alloc ?_; refine SXl.alloc ?_ ?_ (fun g => ?_); rfl; rfl) | (refine l_store ?_; first | (refine SXl.storeAll 0 ?_ rfl rfl rfl rfl rfl rfl rfl ?_; rfl; simp only [List.set_cons_zero, List.set_cons_succ]) | (refine SXl.storeAll 1 ?_ rfl rfl rfl rfl rfl rfl rfl ?_; rfl; simp only [List.set_cons_zero, List.set_cons_succ]) | (refine SXl.storeAll 2 ?_ rfl rfl rfl rfl rfl rfl rfl ?_; rfl; simp only [List.set_cons_zero, List.set_cons_succ]) | (refine SXl.storeRow 0 ?_ rfl rfl rfl rfl rfl rfl rfl ?_; rfl; simp only [over, List.set_cons_zero, List.set_cons_succ]) | (refine SXl.storeRow 1 ?_ rfl rfl rfl rfl rfl rfl rfl ?_; rfl; simp only [over, List.set_cons_zero, List.set_cons_succ]) | (refine SXl.storeRow 2 ?_ rfl rfl rfl rfl rfl rfl rfl ?_; rfl; simp only [over, List.set_cons_zero, List.set_cons_succ])))
  refine l_call ?_
  refine SXl.draw (ξ := Bool) (v := fun b => .bool b) rfl rfl rfl (fun _ => True) (fun w hl => once_d B gc w hl.inv 8 (by decide)) (fun b1 _ => ?_)
  cases b1
  · repeat (first | refine SX.seq ?_ | refine SXl.nil ?_ | refine SX.region ?_ | refine SQ.thenNormal ?_ | refine SX.skip ?_ | refine SX.condF rfl ?_ | (refine l_move ?_; (refine SXl.v (OpW.move rfl) rfl ?_ ?_ ?_); rfl; rfl))
    refine l_call ?_
    refine SXl.draw (ξ := Bool) (v := fun b => .bool b) rfl rfl rfl (fun _ => True) (fun w hl => once_d B gc w hl.inv 8 (by decide)) (fun b2 _ => ?_)
    cases b2
    · repeat (first | refine SX.seq ?_ | refine SXl.nil ?_ | refine SX.region ?_ | refine SQ.thenNormal ?_ | refine SX.skip ?_ | refine SX.condF rfl ?_ | (refine l_load ?_; (refine SXl.v (OpW.loadAll 0 rfl rfl rfl) rfl ?_ ?_ ?_); rfl; rfl) | (refine l_store ?_; first | (refine SXl.storeAll 0 ?_ rfl rfl rfl rfl rfl rfl rfl ?_; rfl; simp only [List.set_cons_zero, List.set_cons_succ]) | (refine SXl.storeAll 1 ?_ rfl rfl rfl rfl rfl rfl rfl ?_; rfl; simp only [List.set_cons_zero, List.set_cons_succ]) | (refine SXl.storeAll 2 ?_ rfl rfl rfl rfl rfl rfl rfl ?_; rfl; simp only [List.set_cons_zero, List.set_cons_succ]) | (refine SXl.storeRow 0 ?_ rfl rfl rfl rfl rfl rfl rfl ?_; rfl; simp only [over, List.set_cons_zero, List.set_cons_succ]) | (refine SXl.storeRow 1 ?_ rfl rfl rfl rfl rfl rfl rfl ?_; rfl; simp only [over, List.set_cons_zero, List.set_cons_succ]) | (refine SXl.storeRow 2 ?_ rfl rfl rfl rfl rfl rfl rfl ?_; rfl; simp only [over, List.set_cons_zero, List.set_cons_succ])) | refine SX.ret ?_)
      refine SQ.bodyCell 1 rfl rfl rfl rfl (fun w' hl => ⟨s, rfl, hs, hl.mod, hl.inv⟩)
    · repeat (first | refine SXl.nil ?_ | refine SX.region ?_ | refine SQ.thenNormal ?_ | refine SX.condT rfl ?_ | (refine l_move ?_; (refine SXl.v (OpW.move rfl) rfl ?_ ?_ ?_); rfl; rfl))
      refine l_call ?_
      refine SXl.draw (ξ := Val) (v := fun v => .agg v.cells.toArray) rfl rfl rfl (fun v => AllOk v.cells) (fun w hl => l04Any_d B gc w hl.inv) (fun v2 hv2 => ?_)
      repeat (first | refine SX.seq ?_ | refine SXl.nil ?_ | refine SX.region ?_ | refine SQ.thenNormal ?_ | (refine l_load ?_; (refine SXl.v (OpW.loadAll 0 rfl rfl rfl) rfl ?_ ?_ ?_); rfl; rfl) | (refine l_fieldAddr ?_; (refine SXl.v (OpW.fieldAddr rfl) rfl ?_ ?_ ?_); rfl; rfl) | (refine l_store ?_; first | (refine SXl.storeAll 0 ?_ rfl rfl rfl rfl rfl rfl rfl ?_; rfl; simp only [List.set_cons_zero, List.set_cons_succ]) | (refine SXl.storeAll 1 ?_ rfl rfl rfl rfl rfl rfl rfl ?_; rfl; simp only [List.set_cons_zero, List.set_cons_succ]) | (refine SXl.storeAll 2 ?_ rfl rfl rfl rfl rfl rfl rfl ?_; rfl; simp only [List.set_cons_zero, List.set_cons_succ]) | (refine SXl.storeRow 0 ?_ rfl rfl rfl rfl rfl rfl rfl ?_; rfl; simp only [over, List.set_cons_zero, List.set_cons_succ]) | (refine SXl.storeRow 1 ?_ rfl rfl rfl rfl rfl rfl rfl ?_; rfl; simp only [over, List.set_cons_zero, List.set_cons_succ]) | (refine SXl.storeRow 2 ?_ rfl rfl rfl rfl rfl rfl rfl ?_; rfl; simp only [over, List.set_cons_zero, List.set_cons_succ])) | refine SX.ret ?_)
      refine SQ.bodyCell 1 rfl rfl rfl rfl (fun w' hl => ⟨{ s with start := v2 }, rfl, AllOk.over (j := 8) hs hv2, hl.mod, hl.inv⟩)
  · repeat (first | refine SXl.nil ?_ | refine SX.region ?_ | refine SQ.thenNormal ?_ | refine SX.condT rfl ?_ | (refine l_move ?_; (refine SXl.v (OpW.move rfl) rfl ?_ ?_ ?_); rfl; rfl))
    refine l_call ?_
    refine SXl.draw (ξ := Val) (v := fun v => .agg v.cells.toArray) rfl rfl rfl (fun v => AllOk v.cells) (fun w hl => l04Any_d B gc w hl.inv) (fun v1 hv1 => ?_)
    repeat (first | refine SX.seq ?_ | refine SXl.nil ?_ | refine SX.region ?_ | refine SQ.thenNormal ?_ | (refine l_fieldAddr ?_; (refine SXl.v (OpW.fieldAddr rfl) rfl ?_ ?_ ?_); rfl; rfl) | (refine l_move ?_; (refine SXl.v (OpW.move rfl) rfl ?_ ?_ ?_); rfl; rfl) | (refine l_store ?_; first | (refine SXl.storeAll 0 ?_ rfl rfl rfl rfl rfl rfl rfl ?_; rfl; simp only [List.set_cons_zero, List.set_cons_succ]) | (refine SXl.storeAll 1 ?_ rfl rfl rfl rfl rfl rfl rfl ?_; rfl; simp only [List.set_cons_zero, List.set_cons_succ]) | (refine SXl.storeAll 2 ?_ rfl rfl rfl rfl rfl rfl rfl ?_; rfl; simp only [List.set_cons_zero, List.set_cons_succ]) | (refine SXl.storeRow 0 ?_ rfl rfl rfl rfl rfl rfl rfl ?_; rfl; simp only [over, List.set_cons_zero, List.set_cons_succ]) | (refine SXl.storeRow 1 ?_ rfl rfl rfl rfl rfl rfl rfl ?_; rfl; simp only [over, List.set_cons_zero, List.set_cons_succ]) | (refine SXl.storeRow 2 ?_ rfl rfl rfl rfl rfl rfl rfl ?_; rfl; simp only [over, List.set_cons_zero, List.set_cons_succ])))
    refine l_call ?_
    refine SXl.draw (ξ := Bool) (v := fun b => .bool b) rfl rfl rfl (fun _ => True) (fun w hl => once_d B gc w hl.inv 8 (by decide)) (fun b2 _ => ?_)
    cases b2
    · repeat (first | refine SX.seq ?_ | refine SXl.nil ?_ | refine SX.region ?_ | refine SQ.thenNormal ?_ | refine SX.skip ?_ | refine SX.condF rfl ?_ | (refine l_load ?_; (refine SXl.v (OpW.loadAll 0 rfl rfl rfl) rfl ?_ ?_ ?_); rfl; rfl) | (refine l_store ?_; first | (refine SXl.storeAll 0 ?_ rfl rfl rfl rfl rfl rfl rfl ?_; rfl; simp only [List.set_cons_zero, List.set_cons_succ]) | (refine SXl.storeAll 1 ?_ rfl rfl rfl rfl rfl rfl rfl ?_; rfl; simp only [List.set_cons_zero, List.set_cons_succ]) | (refine SXl.storeAll 2 ?_ rfl rfl rfl rfl rfl rfl rfl ?_; rfl; simp only [List.set_cons_zero, List.set_cons_succ]) | (refine SXl.storeRow 0 ?_ rfl rfl rfl rfl rfl rfl rfl ?_; rfl; simp only [over, List.set_cons_zero, List.set_cons_succ]) | (refine SXl.storeRow 1 ?_ rfl rfl rfl rfl rfl rfl rfl ?_; rfl; simp only [over, List.set_cons_zero, List.set_cons_succ]) | (refine SXl.storeRow 2 ?_ rfl rfl rfl rfl rfl rfl rfl ?_; rfl; simp only [over, List.set_cons_zero, List.set_cons_succ])) | refine SX.ret ?_)
      refine SQ.bodyCell 1 rfl rfl rfl rfl (fun w' hl => ⟨{ s with top := v1 }, rfl, (AllOk.over (j := 2) hs hv1), hl.mod, hl.inv⟩)
    · repeat (first | refine SXl.nil ?_ | refine SX.region ?_ | refine SQ.thenNormal ?_ | refine SX.condT rfl ?_ | (refine l_move ?_; (refine SXl.v (OpW.move rfl) rfl ?_ ?_ ?_); rfl; rfl))
      refine l_call ?_
      refine SXl.draw (ξ := Val) (v := fun v => .agg v.cells.toArray) rfl rfl rfl (fun v => AllOk v.cells) (fun w hl => l04Any_d B gc w hl.inv) (fun v2 hv2 => ?_)
      repeat (first | refine SX.seq ?_ | refine SXl.nil ?_ | refine SX.region ?_ | refine SQ.thenNormal ?_ | (refine l_load ?_; (refine SXl.v (OpW.loadAll 0 rfl rfl rfl) rfl ?_ ?_ ?_); rfl; rfl) | (refine l_fieldAddr ?_; (refine SXl.v (OpW.fieldAddr rfl) rfl ?_ ?_ ?_); rfl; rfl) | (refine l_store ?_; first | (refine SXl.storeAll 0 ?_ rfl rfl rfl rfl rfl rfl rfl ?_; rfl; simp only [List.set_cons_zero, List.set_cons_succ]) | (refine SXl.storeAll 1 ?_ rfl rfl rfl rfl rfl rfl rfl ?_; rfl; simp only [List.set_cons_zero, List.set_cons_succ]) | (refine SXl.storeAll 2 ?_ rfl rfl rfl rfl rfl rfl rfl ?_; rfl; simp only [List.set_cons_zero, List.set_cons_succ]) | (refine SXl.storeRow 0 ?_ rfl rfl rfl rfl rfl rfl rfl ?_; rfl; simp only [over, List.set_cons_zero, List.set_cons_succ]) | (refine SXl.storeRow 1 ?_ rfl rfl rfl rfl rfl rfl rfl ?_; rfl; simp only [over, List.set_cons_zero, List.set_cons_succ]) | (refine SXl.storeRow 2 ?_ rfl rfl rfl rfl rfl rfl rfl ?_; rfl; simp only [over, List.set_cons_zero, List.set_cons_succ])) | refine SX.ret ?_)
      refine SQ.bodyCell 1 rfl rfl rfl rfl (fun w' hl => ⟨{ s with top := v1, start := v2 }, rfl, AllOk.over (j := 8) (AllOk.over (j := 2) hs hv1) hv2, hl.mod, hl.inv⟩)

set_option maxRecDepth 100000 in
set_option maxHeartbeats 8000000 in
theorem l05Edges_d (B gc : Nat) (w : World) (hc : Cur B 75 w gc) : Calls Tryz.prog 59 #[.pointer (some ⟨gc, 0, none⟩)] w (DrewV 75 B gc w (fun v : Edges => .agg v.cells.toArray) (fun v => AllOk v.cells)) := by
  refine calls_draw (as_ := [.pointer (some ⟨gc, 0, none⟩)]) hc Tryz.func59 rfl rfl (fun a h1 h2 h3 => ((Fr.nil h1 h2).arg (h3 0 _ rfl))) ?_
  repeat (first | refine SX.seq ?_ | refine SXl.nil ?_ | refine SX.region ?_ | refine SQ.thenNormal ?_ | (refine l_build ?_; (refine SXl.v ((OpW.build (vals := []) (cells := Edges.cells default) rfl (by kernel_rfl))) rfl ?_ ?_ ?_); rfl; rfl) | (refine l_move ?_; (refine SXl.v (OpW.move rfl) rfl ?_ ?_ ?_); rfl; rfl) | (refine l_alloc ?_; refine SXl.alloc ?_ ?_ (fun g => ?_); rfl; rfl) | (refine l_store ?_; first | (refine SXl.store 0 ?_ rfl rfl rfl rfl rfl rfl ?_; rfl; simp only [List.set_cons_zero, List.set_cons_succ]) | (refine SXl.store 1 ?_ rfl rfl rfl rfl rfl rfl ?_; rfl; simp only [List.set_cons_zero, List.set_cons_succ]) | (refine SXl.store 2 ?_ rfl rfl rfl rfl rfl rfl ?_; rfl; simp only [List.set_cons_zero, List.set_cons_succ]) | (refine SXl.storeAll 0 ?_ rfl rfl rfl rfl rfl rfl rfl ?_; rfl; simp only [List.set_cons_zero, List.set_cons_succ]) | (refine SXl.storeAll 1 ?_ rfl rfl rfl rfl rfl rfl rfl ?_; rfl; simp only [List.set_cons_zero, List.set_cons_succ]) | (refine SXl.storeAll 2 ?_ rfl rfl rfl rfl rfl rfl rfl ?_; rfl; simp only [List.set_cons_zero, List.set_cons_succ]) | (refine SXl.storeRow 0 ?_ rfl rfl rfl rfl rfl rfl rfl ?_; rfl; simp only [over, List.set_cons_zero, List.set_cons_succ]) | (refine SXl.storeRow 1 ?_ rfl rfl rfl rfl rfl rfl rfl ?_; rfl; simp only [over, List.set_cons_zero, List.set_cons_succ]) | (refine SXl.storeRow 2 ?_ rfl rfl rfl rfl rfl rfl rfl ?_; rfl; simp only [over, List.set_cons_zero, List.set_cons_succ])))
  refine l_call ?_
  refine SXl.draw (ξ := Bool) (v := fun b => .bool b) rfl rfl rfl (fun _ => True) (fun w hl => once_d B gc w hl.inv 2 (by decide)) (fun b _ => ?_)
  cases b
  rotate_left
  · repeat (first | refine SX.seq ?_ | refine SXl.nil ?_ | refine SX.region ?_ | refine SQ.thenNormal ?_ | refine SX.condT rfl ?_ | (refine l_load ?_; (refine SXl.v (OpW.loadAll 0 rfl rfl rfl) rfl ?_ ?_ ?_); rfl; rfl) | (refine l_store ?_; first | (refine SXl.store 0 ?_ rfl rfl rfl rfl rfl rfl ?_; rfl; simp only [List.set_cons_zero, List.set_cons_succ]) | (refine SXl.store 1 ?_ rfl rfl rfl rfl rfl rfl ?_; rfl; simp only [List.set_cons_zero, List.set_cons_succ]) | (refine SXl.store 2 ?_ rfl rfl rfl rfl rfl rfl ?_; rfl; simp only [List.set_cons_zero, List.set_cons_succ]) | (refine SXl.storeAll 0 ?_ rfl rfl rfl rfl rfl rfl rfl ?_; rfl; simp only [List.set_cons_zero, List.set_cons_succ]) | (refine SXl.storeAll 1 ?_ rfl rfl rfl rfl rfl rfl rfl ?_; rfl; simp only [List.set_cons_zero, List.set_cons_succ]) | (refine SXl.storeAll 2 ?_ rfl rfl rfl rfl rfl rfl rfl ?_; rfl; simp only [List.set_cons_zero, List.set_cons_succ]) | (refine SXl.storeRow 0 ?_ rfl rfl rfl rfl rfl rfl rfl ?_; rfl; simp only [over, List.set_cons_zero, List.set_cons_succ]) | (refine SXl.storeRow 1 ?_ rfl rfl rfl rfl rfl rfl rfl ?_; rfl; simp only [over, List.set_cons_zero, List.set_cons_succ]) | (refine SXl.storeRow 2 ?_ rfl rfl rfl rfl rfl rfl rfl ?_; rfl; simp only [over, List.set_cons_zero, List.set_cons_succ])) | refine SX.ret ?_ | refine SQ.thenRet ?_)
    refine SQ.bodyCell 1 rfl rfl rfl rfl (fun w' hl => ⟨default, rfl, allOk_of (by decide), hl.mod, hl.inv⟩)
  repeat (first | refine SX.seq ?_ | refine SXl.nil ?_ | refine SX.region ?_ | refine SQ.thenNormal ?_ | refine SX.skip ?_ | refine SX.condF rfl ?_ | (refine l_move ?_; (refine SXl.v (OpW.move rfl) rfl ?_ ?_ ?_); rfl; rfl))
  refine l_buildSlice ?_
  refine SXl.lit (cells := [.int .i64 0, .int .i64 64, .int .i64 10, .int .i64 33]) (z := .int .i64 0) ?_ ?_ rfl (by decide) (by kernel_rfl) rfl (fun gl => ?_)
  rfl; rfl
  skip
  refine l_call ?_
  refine SXl.draw (ξ := Int) (v := fun x => .int .i64 x) rfl rfl rfl (fun x => x ∈ ([0, 64, 10, 33] : List Int)) (fun w hl => pick_d (l := [0, 64, 10, 33]) hl (by decide) (by decide)) (fun x0 hx0 => ?_)
  refine SXl.drop1 ?_
  have hy0 : 0 ≤ x0 ∧ x0 ≤ 64 := by simp at hx0; omega
  repeat (first | refine SX.seq ?_ | refine SXl.nil ?_ | refine SX.region ?_ | refine SQ.thenNormal ?_ | (refine l_fieldAddr ?_; (refine SXl.v (OpW.fieldAddr rfl) rfl ?_ ?_ ?_); rfl; rfl) | (refine l_move ?_; (refine SXl.v (OpW.move rfl) rfl ?_ ?_ ?_); rfl; rfl) | (refine l_store ?_; first | (refine SXl.store 0 ?_ rfl rfl rfl rfl rfl rfl ?_; rfl; simp only [List.set_cons_zero, List.set_cons_succ]) | (refine SXl.store 1 ?_ rfl rfl rfl rfl rfl rfl ?_; rfl; simp only [List.set_cons_zero, List.set_cons_succ]) | (refine SXl.store 2 ?_ rfl rfl rfl rfl rfl rfl ?_; rfl; simp only [List.set_cons_zero, List.set_cons_succ]) | (refine SXl.storeAll 0 ?_ rfl rfl rfl rfl rfl rfl rfl ?_; rfl; simp only [List.set_cons_zero, List.set_cons_succ]) | (refine SXl.storeAll 1 ?_ rfl rfl rfl rfl rfl rfl rfl ?_; rfl; simp only [List.set_cons_zero, List.set_cons_succ]) | (refine SXl.storeAll 2 ?_ rfl rfl rfl rfl rfl rfl rfl ?_; rfl; simp only [List.set_cons_zero, List.set_cons_succ]) | (refine SXl.storeRow 0 ?_ rfl rfl rfl rfl rfl rfl rfl ?_; rfl; simp only [over, List.set_cons_zero, List.set_cons_succ]) | (refine SXl.storeRow 1 ?_ rfl rfl rfl rfl rfl rfl rfl ?_; rfl; simp only [over, List.set_cons_zero, List.set_cons_succ]) | (refine SXl.storeRow 2 ?_ rfl rfl rfl rfl rfl rfl rfl ?_; rfl; simp only [over, List.set_cons_zero, List.set_cons_succ])))
  refine l_buildSlice ?_
  refine SXl.lit (cells := [.int .i64 0, .int .i64 64, .int .i64 10, .int .i64 33]) (z := .int .i64 0) ?_ ?_ rfl (by decide) (by kernel_rfl) rfl (fun gl => ?_)
  rfl; rfl
  skip
  refine l_call ?_
  refine SXl.draw (ξ := Int) (v := fun x => .int .i64 x) rfl rfl rfl (fun x => x ∈ ([0, 64, 10, 33] : List Int)) (fun w hl => pick_d (l := [0, 64, 10, 33]) hl (by decide) (by decide)) (fun x1 hx1 => ?_)
  refine SXl.drop1 ?_
  have hy1 : 0 ≤ x1 ∧ x1 ≤ 64 := by simp at hx1; omega
  repeat (first | refine SX.seq ?_ | refine SXl.nil ?_ | refine SX.region ?_ | refine SQ.thenNormal ?_ | (refine l_fieldAddr ?_; (refine SXl.v (OpW.fieldAddr rfl) rfl ?_ ?_ ?_); rfl; rfl) | (refine l_move ?_; (refine SXl.v (OpW.move rfl) rfl ?_ ?_ ?_); rfl; rfl) | (refine l_store ?_; first | (refine SXl.store 0 ?_ rfl rfl rfl rfl rfl rfl ?_; rfl; simp only [List.set_cons_zero, List.set_cons_succ]) | (refine SXl.store 1 ?_ rfl rfl rfl rfl rfl rfl ?_; rfl; simp only [List.set_cons_zero, List.set_cons_succ]) | (refine SXl.store 2 ?_ rfl rfl rfl rfl rfl rfl ?_; rfl; simp only [List.set_cons_zero, List.set_cons_succ]) | (refine SXl.storeAll 0 ?_ rfl rfl rfl rfl rfl rfl rfl ?_; rfl; simp only [List.set_cons_zero, List.set_cons_succ]) | (refine SXl.storeAll 1 ?_ rfl rfl rfl rfl rfl rfl rfl ?_; rfl; simp only [List.set_cons_zero, List.set_cons_succ]) | (refine SXl.storeAll 2 ?_ rfl rfl rfl rfl rfl rfl rfl ?_; rfl; simp only [List.set_cons_zero, List.set_cons_succ]) | (refine SXl.storeRow 0 ?_ rfl rfl rfl rfl rfl rfl rfl ?_; rfl; simp only [over, List.set_cons_zero, List.set_cons_succ]) | (refine SXl.storeRow 1 ?_ rfl rfl rfl rfl rfl rfl rfl ?_; rfl; simp only [over, List.set_cons_zero, List.set_cons_succ]) | (refine SXl.storeRow 2 ?_ rfl rfl rfl rfl rfl rfl rfl ?_; rfl; simp only [over, List.set_cons_zero, List.set_cons_succ])))
  refine l_buildSlice ?_
  refine SXl.lit (cells := [.int .i64 0, .int .i64 64, .int .i64 10]) (z := .int .i64 0) ?_ ?_ rfl (by decide) (by kernel_rfl) rfl (fun gl => ?_)
  rfl; rfl
  skip
  refine l_call ?_
  refine SXl.draw (ξ := Int) (v := fun x => .int .i64 x) rfl rfl rfl (fun x => x ∈ ([0, 64, 10] : List Int)) (fun w hl => pick_d (l := [0, 64, 10]) hl (by decide) (by decide)) (fun x2 hx2 => ?_)
  refine SXl.drop1 ?_
  have hy2 : 0 ≤ x2 ∧ x2 ≤ 64 := by simp at hx2; omega
  repeat (first | refine SX.seq ?_ | refine SXl.nil ?_ | refine SX.region ?_ | refine SQ.thenNormal ?_ | (refine l_fieldAddr ?_; (refine SXl.v (OpW.fieldAddr rfl) rfl ?_ ?_ ?_); rfl; rfl) | (refine l_move ?_; (refine SXl.v (OpW.move rfl) rfl ?_ ?_ ?_); rfl; rfl) | (refine l_store ?_; first | (refine SXl.store 0 ?_ rfl rfl rfl rfl rfl rfl ?_; rfl; simp only [List.set_cons_zero, List.set_cons_succ]) | (refine SXl.store 1 ?_ rfl rfl rfl rfl rfl rfl ?_; rfl; simp only [List.set_cons_zero, List.set_cons_succ]) | (refine SXl.store 2 ?_ rfl rfl rfl rfl rfl rfl ?_; rfl; simp only [List.set_cons_zero, List.set_cons_succ]) | (refine SXl.storeAll 0 ?_ rfl rfl rfl rfl rfl rfl rfl ?_; rfl; simp only [List.set_cons_zero, List.set_cons_succ]) | (refine SXl.storeAll 1 ?_ rfl rfl rfl rfl rfl rfl rfl ?_; rfl; simp only [List.set_cons_zero, List.set_cons_succ]) | (refine SXl.storeAll 2 ?_ rfl rfl rfl rfl rfl rfl rfl ?_; rfl; simp only [List.set_cons_zero, List.set_cons_succ]) | (refine SXl.storeRow 0 ?_ rfl rfl rfl rfl rfl rfl rfl ?_; rfl; simp only [over, List.set_cons_zero, List.set_cons_succ]) | (refine SXl.storeRow 1 ?_ rfl rfl rfl rfl rfl rfl rfl ?_; rfl; simp only [over, List.set_cons_zero, List.set_cons_succ]) | (refine SXl.storeRow 2 ?_ rfl rfl rfl rfl rfl rfl rfl ?_; rfl; simp only [over, List.set_cons_zero, List.set_cons_succ])))
  refine l_buildSlice ?_
  refine SXl.lit (cells := [.int .i64 0, .int .i64 64, .int .i64 10]) (z := .int .i64 0) ?_ ?_ rfl (by decide) (by kernel_rfl) rfl (fun gl => ?_)
  rfl; rfl
  skip
  refine l_call ?_
  refine SXl.draw (ξ := Int) (v := fun x => .int .i64 x) rfl rfl rfl (fun x => x ∈ ([0, 64, 10] : List Int)) (fun w hl => pick_d (l := [0, 64, 10]) hl (by decide) (by decide)) (fun x3 hx3 => ?_)
  refine SXl.drop1 ?_
  have hy3 : 0 ≤ x3 ∧ x3 ≤ 64 := by simp at hx3; omega
  repeat (first | refine SX.seq ?_ | refine SXl.nil ?_ | refine SX.region ?_ | refine SQ.thenNormal ?_ | (refine l_load ?_; (refine SXl.v (OpW.loadAll 0 rfl rfl rfl) rfl ?_ ?_ ?_); rfl; rfl) | (refine l_fieldAddr ?_; (refine SXl.v (OpW.fieldAddr rfl) rfl ?_ ?_ ?_); rfl; rfl) | (refine l_store ?_; first | (refine SXl.store 0 ?_ rfl rfl rfl rfl rfl rfl ?_; rfl; simp only [List.set_cons_zero, List.set_cons_succ]) | (refine SXl.store 1 ?_ rfl rfl rfl rfl rfl rfl ?_; rfl; simp only [List.set_cons_zero, List.set_cons_succ]) | (refine SXl.store 2 ?_ rfl rfl rfl rfl rfl rfl ?_; rfl; simp only [List.set_cons_zero, List.set_cons_succ]) | (refine SXl.storeAll 0 ?_ rfl rfl rfl rfl rfl rfl rfl ?_; rfl; simp only [List.set_cons_zero, List.set_cons_succ]) | (refine SXl.storeAll 1 ?_ rfl rfl rfl rfl rfl rfl rfl ?_; rfl; simp only [List.set_cons_zero, List.set_cons_succ]) | (refine SXl.storeAll 2 ?_ rfl rfl rfl rfl rfl rfl rfl ?_; rfl; simp only [List.set_cons_zero, List.set_cons_succ]) | (refine SXl.storeRow 0 ?_ rfl rfl rfl rfl rfl rfl rfl ?_; rfl; simp only [over, List.set_cons_zero, List.set_cons_succ]) | (refine SXl.storeRow 1 ?_ rfl rfl rfl rfl rfl rfl rfl ?_; rfl; simp only [over, List.set_cons_zero, List.set_cons_succ]) | (refine SXl.storeRow 2 ?_ rfl rfl rfl rfl rfl rfl rfl ?_; rfl; simp only [over, List.set_cons_zero, List.set_cons_succ])) | refine SX.ret ?_)
  refine SQ.bodyCell 1 rfl rfl rfl rfl (fun w' hl => ⟨⟨x0, x1, x2, x3⟩, rfl, ((((allOk_of (c := Edges.cells default) (by decide)).set (cellOk_int (n := x0) ⟨by omega, by omega⟩) 0).set (cellOk_int (n := x1) ⟨by omega, by omega⟩) 1).set (cellOk_int (n := x2) ⟨by omega, by omega⟩) 2).set (cellOk_int (n := x3) ⟨by omega, by omega⟩) 3, hl.mod, hl.inv⟩)

set_option maxRecDepth 100000 in
set_option maxHeartbeats 8000000 in
theorem l05AnyEdges_d (B gc : Nat) (w : World) (hc : Cur B 75 w gc) : Calls Tryz.prog 44 #[.pointer (some ⟨gc, 0, none⟩)] w (DrewV 75 B gc w (fun v : Edges => .agg v.cells.toArray) (fun v => AllOk v.cells)) := by
  refine calls_draw (as_ := [.pointer (some ⟨gc, 0, none⟩)]) hc Tryz.func44 rfl rfl (fun a h1 h2 h3 => ((Fr.nil h1 h2).arg (h3 0 _ rfl))) ?_
  repeat (first | refine SX.seq ?_ | refine SXl.nil ?_ | refine SX.region ?_ | refine SQ.thenNormal ?_ | (refine l_move ?_; (refine SXl.v (OpW.move rfl) rfl ?_ ?_ ?_); rfl; rfl) | (refine l_alloc ?_; refine SXl.alloc ?_ ?_ (fun g => ?_); rfl; rfl))
  refine l_call ?_
  refine SXl.draw (ξ := Edges) (v := fun v => .agg v.cells.toArray) rfl rfl rfl (fun v => AllOk v.cells) (fun w hl => l05Edges_d B gc w hl.inv) (fun s hs => ?_)
  repeat (first | refine SX.seq ?_ | refine SXl.nil ?_ | refine SX.region ?_ | refine SQ.thenNormal ?_ | (refine l_move ?_; (refine SXl.v (OpW.move rfl) rfl ?_ ?_ ?_); rfl; rfl) | (refine l_alloc ?_; refine SXl.alloc ?_ ?_ (fun g => ?_); rfl; rfl) | (refine l_store ?_; first | (refine SXl.store 0 ?_ rfl rfl rfl rfl rfl rfl ?_; rfl; simp only [List.set_cons_zero, List.set_cons_succ]) | (refine SXl.store 1 ?_ rfl rfl rfl rfl rfl rfl ?_; rfl; simp only [List.set_cons_zero, List.set_cons_succ]) | (refine SXl.store 2 ?_ rfl rfl rfl rfl rfl rfl ?_; rfl; simp only [List.set_cons_zero, List.set_cons_succ]) | (refine SXl.storeAll 0 ?_ rfl rfl rfl rfl rfl rfl rfl ?_; rfl; simp only [List.set_cons_zero, List.set_cons_succ]) | (refine SXl.storeAll 1 ?_ rfl rfl rfl rfl rfl rfl rfl ?_; rfl; simp only [List.set_cons_zero, List.set_cons_succ]) | (refine SXl.storeAll 2 ?_ rfl rfl rfl rfl rfl rfl rfl ?_; rfl; simp only [List.set_cons_zero, List.set_cons_succ]) | (refine SXl.storeRow 0 ?_ rfl rfl rfl rfl rfl rfl rfl ?_; rfl; simp only [over, List.set_cons_zero, List.set_cons_succ]) | (refine SXl.storeRow 1 ?_ rfl rfl rfl rfl rfl rfl rfl ?_; rfl; simp only [over, List.set_cons_zero, List.set_cons_succ]) | (refine SXl.storeRow 2 ?_ rfl rfl rfl rfl rfl rfl rfl ?_; rfl; simp only [over, List.set_cons_zero, List.set_cons_succ])))
  refine l_call ?_
  refine SXl.draw (ξ := Bool) (v := fun b => .bool b) rfl rfl rfl (fun _ => True) (fun w hl => once_d B gc w hl.inv 6 (by decide)) (fun b _ => ?_)
  cases b
  · repeat (first | refine SX.seq ?_ | refine SXl.nil ?_ | refine SX.region ?_ | refine SQ.thenNormal ?_ | refine SX.skip ?_ | refine SX.condF rfl ?_ | (refine l_load ?_; (refine SXl.v (OpW.loadAll 0 rfl rfl rfl) rfl ?_ ?_ ?_); rfl; rfl) | (refine l_store ?_; first | (refine SXl.store 0 ?_ rfl rfl rfl rfl rfl rfl ?_; rfl; simp only [List.set_cons_zero, List.set_cons_succ]) | (refine SXl.store 1 ?_ rfl rfl rfl rfl rfl rfl ?_; rfl; simp only [List.set_cons_zero, List.set_cons_succ]) | (refine SXl.store 2 ?_ rfl rfl rfl rfl rfl rfl ?_; rfl; simp only [List.set_cons_zero, List.set_cons_succ]) | (refine SXl.storeAll 0 ?_ rfl rfl rfl rfl rfl rfl rfl ?_; rfl; simp only [List.set_cons_zero, List.set_cons_succ]) | (refine SXl.storeAll 1 ?_ rfl rfl rfl rfl rfl rfl rfl ?_; rfl; simp only [List.set_cons_zero, List.set_cons_succ]) | (refine SXl.storeAll 2 ?_ rfl rfl rfl rfl rfl rfl rfl ?_; rfl; simp only [List.set_cons_zero, List.set_cons_succ]) | (refine SXl.storeRow 0 ?_ rfl rfl rfl rfl rfl rfl rfl ?_; rfl; simp only [over, List.set_cons_zero, List.set_cons_succ]) | (refine SXl.storeRow 1 ?_ rfl rfl rfl rfl rfl rfl rfl ?_; rfl; simp only [over, List.set_cons_zero, List.set_cons_succ]) | (refine SXl.storeRow 2 ?_ rfl rfl rfl rfl rfl rfl rfl ?_; rfl; simp only [over, List.set_cons_zero, List.set_cons_succ])) | refine SX.ret ?_)
    refine SQ.bodyCell 1 rfl rfl rfl rfl (fun w' hl => ⟨s, rfl, hs, hl.mod, hl.inv⟩)
  · repeat (first | refine SXl.nil ?_ | refine SX.region ?_ | refine SQ.thenNormal ?_ | refine SX.condT rfl ?_ | (refine l_move ?_; (refine SXl.v (OpW.move rfl) rfl ?_ ?_ ?_); rfl; rfl))
    refine l_call ?_
    refine SXl.draw (ξ := Int) (v := fun x => .int .i64 x) rfl rfl rfl (fun x => I64 x) (fun w hl => l02Int_d B gc w hl.inv) (fun y hy => ?_)
    repeat (first | refine SX.seq ?_ | refine SXl.nil ?_ | refine SX.region ?_ | refine SQ.thenNormal ?_ | (refine l_load ?_; (refine SXl.v (OpW.loadAll 0 rfl rfl rfl) rfl ?_ ?_ ?_); rfl; rfl) | (refine l_fieldAddr ?_; (refine SXl.v (OpW.fieldAddr rfl) rfl ?_ ?_ ?_); rfl; rfl) | (refine l_store ?_; first | (refine SXl.store 0 ?_ rfl rfl rfl rfl rfl rfl ?_; rfl; simp only [List.set_cons_zero, List.set_cons_succ]) | (refine SXl.store 1 ?_ rfl rfl rfl rfl rfl rfl ?_; rfl; simp only [List.set_cons_zero, List.set_cons_succ]) | (refine SXl.store 2 ?_ rfl rfl rfl rfl rfl rfl ?_; rfl; simp only [List.set_cons_zero, List.set_cons_succ]) | (refine SXl.storeAll 0 ?_ rfl rfl rfl rfl rfl rfl rfl ?_; rfl; simp only [List.set_cons_zero, List.set_cons_succ]) | (refine SXl.storeAll 1 ?_ rfl rfl rfl rfl rfl rfl rfl ?_; rfl; simp only [List.set_cons_zero, List.set_cons_succ]) | (refine SXl.storeAll 2 ?_ rfl rfl rfl rfl rfl rfl rfl ?_; rfl; simp only [List.set_cons_zero, List.set_cons_succ]) | (refine SXl.storeRow 0 ?_ rfl rfl rfl rfl rfl rfl rfl ?_; rfl; simp only [over, List.set_cons_zero, List.set_cons_succ]) | (refine SXl.storeRow 1 ?_ rfl rfl rfl rfl rfl rfl rfl ?_; rfl; simp only [over, List.set_cons_zero, List.set_cons_succ]) | (refine SXl.storeRow 2 ?_ rfl rfl rfl rfl rfl rfl rfl ?_; rfl; simp only [over, List.set_cons_zero, List.set_cons_succ])) | refine SX.ret ?_)
    refine SQ.bodyCell 1 rfl rfl rfl rfl (fun w' hl => ⟨{ s with right := y }, rfl, hs.set (cellOk_int hy) 2, hl.mod, hl.inv⟩)
end Go.Proofs.YthffgbhphjkdeaaGreatDoor
