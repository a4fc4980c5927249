/-
  PROVED: contracts of functions and words on memory, several texts put together: what each says stands at its theorems. Conditions: as told there.
-/
import Derived.Test.YtpkpkojmaebflaaGreatDoorMLa
import Derived.Test.YtpkpkojmaebflaaGreatDoorProg
import Derived.Test.YtpkpkojmaebflaaGreatDoorChecked
import Derived.Deep.QuietTactic
import Derived.BigQuiet
import Derived.Outline
import Derived.WalkLawsBesides
import Derived.Deep.RegionHeld3
import Derived.StillTailTactics
import Derived.ProofKit
set_option linter.unusedVariables false
set_option linter.unusedSimpArgs false
namespace Go.Proofs.YtpkpkojmaebflaaGreatDoor

instance : TOne Tryz.prog 2 := ⟨⟨_, Tryz.underlying2, rfl⟩, by kernel_rfl⟩
instance : TEl Tryz.prog 2 1 8 (.int .i64 0) := ⟨by kernel_rfl, rfl, by decide⟩
instance : TZero Tryz.prog 2 [.int .i64 0] := ⟨.int .i64 0, by kernel_rfl, rfl⟩
instance : TOne Tryz.prog 3 := ⟨⟨_, Tryz.underlying3, rfl⟩, by kernel_rfl⟩
instance : TEl Tryz.prog 3 1 8 (.int .i64 0) := ⟨by kernel_rfl, rfl, by decide⟩
instance : TZero Tryz.prog 3 [.int .i64 0] := ⟨.int .i64 0, by kernel_rfl, rfl⟩
instance : TOne Tryz.prog 4 := ⟨⟨_, Tryz.underlying4, rfl⟩, by kernel_rfl⟩
instance : TBool Tryz.prog 4 := ⟨Tryz.underlying4⟩
instance : TEl Tryz.prog 4 1 1 (.bool false) := ⟨by kernel_rfl, rfl, by decide⟩
instance : TZero Tryz.prog 4 [.bool false] := ⟨.bool false, by kernel_rfl, rfl⟩
instance : TOne Tryz.prog 5 := ⟨⟨_, Tryz.underlying5, rfl⟩, by kernel_rfl⟩
instance : TEl Tryz.prog 5 1 1 (.int .u8 0) := ⟨by kernel_rfl, rfl, by decide⟩
instance : TZero Tryz.prog 5 [.int .u8 0] := ⟨.int .u8 0, by kernel_rfl, rfl⟩
instance : TOne Tryz.prog 6 := ⟨⟨_, Tryz.underlying6, rfl⟩, by kernel_rfl⟩
instance : TEl Tryz.prog 6 1 1 (.int .u8 0) := ⟨by kernel_rfl, rfl, by decide⟩
instance : TZero Tryz.prog 6 [.int .u8 0] := ⟨.int .u8 0, by kernel_rfl, rfl⟩
instance : TRow Tryz.prog 7 4 := ⟨⟨_, Tryz.underlying7, rfl⟩, by kernel_rfl⟩
instance : TFld Tryz.prog 7 0 0 := ⟨_, _, 0, Tryz.underlying7, rfl, rfl, by kernel_rfl⟩
instance : TFld Tryz.prog 7 1 1 := ⟨_, _, 0, Tryz.underlying7, rfl, rfl, by kernel_rfl⟩
instance : TFld Tryz.prog 7 2 2 := ⟨_, _, 0, Tryz.underlying7, rfl, rfl, by kernel_rfl⟩
instance : TFld Tryz.prog 7 3 3 := ⟨_, _, 0, Tryz.underlying7, rfl, rfl, by kernel_rfl⟩
instance : TEl Tryz.prog 7 4 24 (.agg #[.int .i64 0, .int .i64 0, .bool false, .int .u8 0]) := ⟨by kernel_rfl, rfl, by decide⟩
instance : TZero Tryz.prog 7 [.int .i64 0, .int .i64 0, .bool false, .int .u8 0] := ⟨.agg #[.int .i64 0, .int .i64 0, .bool false, .int .u8 0], by kernel_rfl, rfl⟩
instance : TRow Tryz.prog 8 4 := ⟨⟨_, Tryz.underlying8, rfl⟩, by kernel_rfl⟩
instance : TFld Tryz.prog 8 0 0 := ⟨_, _, 0, Tryz.underlying8, rfl, rfl, by kernel_rfl⟩
instance : TFld Tryz.prog 8 1 1 := ⟨_, _, 0, Tryz.underlying8, rfl, rfl, by kernel_rfl⟩
instance : TFld Tryz.prog 8 2 2 := ⟨_, _, 0, Tryz.underlying8, rfl, rfl, by kernel_rfl⟩
instance : TFld Tryz.prog 8 3 3 := ⟨_, _, 0, Tryz.underlying8, rfl, rfl, by kernel_rfl⟩
instance : TEl Tryz.prog 8 4 24 (.agg #[.int .i64 0, .int .i64 0, .bool false, .int .u8 0]) := ⟨by kernel_rfl, rfl, by decide⟩
instance : TZero Tryz.prog 8 [.int .i64 0, .int .i64 0, .bool false, .int .u8 0] := ⟨.agg #[.int .i64 0, .int .i64 0, .bool false, .int .u8 0], by kernel_rfl, rfl⟩
instance : TOne Tryz.prog 9 := ⟨⟨_, Tryz.underlying9, rfl⟩, by kernel_rfl⟩
instance : TStr Tryz.prog 9 := ⟨Tryz.underlying9⟩
instance : TEl Tryz.prog 9 1 16 (.string ⟨#[]⟩) := ⟨by kernel_rfl, rfl, by decide⟩
instance : TZero Tryz.prog 9 [.string ⟨#[]⟩] := ⟨.string ⟨#[]⟩, by kernel_rfl, rfl⟩
instance : TOne Tryz.prog 10 := ⟨⟨_, Tryz.underlying10, rfl⟩, by kernel_rfl⟩
instance : TStr Tryz.prog 10 := ⟨Tryz.underlying10⟩
instance : TEl Tryz.prog 10 1 16 (.string ⟨#[]⟩) := ⟨by kernel_rfl, rfl, by decide⟩
instance : TZero Tryz.prog 10 [.string ⟨#[]⟩] := ⟨.string ⟨#[]⟩, by kernel_rfl, rfl⟩
instance : TOne Tryz.prog 11 := ⟨⟨_, Tryz.underlying11, rfl⟩, by kernel_rfl⟩
instance : TStr Tryz.prog 11 := ⟨Tryz.underlying11⟩
instance : TEl Tryz.prog 11 1 16 (.string ⟨#[]⟩) := ⟨by kernel_rfl, rfl, by decide⟩
instance : TZero Tryz.prog 11 [.string ⟨#[]⟩] := ⟨.string ⟨#[]⟩, by kernel_rfl, rfl⟩
instance : TOne Tryz.prog 12 := ⟨⟨_, Tryz.underlying12, rfl⟩, by kernel_rfl⟩
instance : TEl Tryz.prog 12 1 8 (.int .u64 0) := ⟨by kernel_rfl, rfl, by decide⟩
instance : TZero Tryz.prog 12 [.int .u64 0] := ⟨.int .u64 0, by kernel_rfl, rfl⟩
instance : TRow Tryz.prog 13 2 := ⟨⟨_, Tryz.underlying13, rfl⟩, by kernel_rfl⟩
instance : TFld Tryz.prog 13 0 0 := ⟨_, _, 0, Tryz.underlying13, rfl, rfl, by kernel_rfl⟩
instance : TFld Tryz.prog 13 1 1 := ⟨_, _, 0, Tryz.underlying13, rfl, rfl, by kernel_rfl⟩
instance : TEl Tryz.prog 13 2 24 (.agg #[.string ⟨#[]⟩, .int .u64 0]) := ⟨by kernel_rfl, rfl, by decide⟩
instance : TZero Tryz.prog 13 [.string ⟨#[]⟩, .int .u64 0] := ⟨.agg #[.string ⟨#[]⟩, .int .u64 0], by kernel_rfl, rfl⟩
instance : TRow Tryz.prog 14 2 := ⟨⟨_, Tryz.underlying14, rfl⟩, by kernel_rfl⟩
instance : TFld Tryz.prog 14 0 0 := ⟨_, _, 0, Tryz.underlying14, rfl, rfl, by kernel_rfl⟩
instance : TFld Tryz.prog 14 1 1 := ⟨_, _, 0, Tryz.underlying14, rfl, rfl, by kernel_rfl⟩
instance : TEl Tryz.prog 14 2 24 (.agg #[.string ⟨#[]⟩, .int .u64 0]) := ⟨by kernel_rfl, rfl, by decide⟩
instance : TZero Tryz.prog 14 [.string ⟨#[]⟩, .int .u64 0] := ⟨.agg #[.string ⟨#[]⟩, .int .u64 0], by kernel_rfl, rfl⟩
instance : TOne Tryz.prog 15 := ⟨⟨_, Tryz.underlying15, rfl⟩, by kernel_rfl⟩
instance : TPtr Tryz.prog 15 := ⟨⟨_, Tryz.underlying15⟩⟩
instance : TEl Tryz.prog 15 1 8 (.pointer none) := ⟨by kernel_rfl, rfl, by decide⟩
instance : TZero Tryz.prog 15 [.pointer none] := ⟨.pointer none, by kernel_rfl, rfl⟩
instance : TOne Tryz.prog 16 := ⟨⟨_, Tryz.underlying16, rfl⟩, by kernel_rfl⟩
instance : TPtr Tryz.prog 16 := ⟨⟨_, Tryz.underlying16⟩⟩
instance : TEl Tryz.prog 16 1 8 (.pointer none) := ⟨by kernel_rfl, rfl, by decide⟩
instance : TZero Tryz.prog 16 [.pointer none] := ⟨.pointer none, by kernel_rfl, rfl⟩
instance : TOne Tryz.prog 17 := ⟨⟨_, Tryz.underlying17, rfl⟩, by kernel_rfl⟩
instance : TPtr Tryz.prog 17 := ⟨⟨_, Tryz.underlying17⟩⟩
instance : TEl Tryz.prog 17 1 8 (.pointer none) := ⟨by kernel_rfl, rfl, by decide⟩
instance : TZero Tryz.prog 17 [.pointer none] := ⟨.pointer none, by kernel_rfl, rfl⟩
instance : TRow Tryz.prog 18 1 := ⟨⟨_, Tryz.underlying18, rfl⟩, by kernel_rfl⟩
instance : TFld Tryz.prog 18 0 0 := ⟨_, _, 0, Tryz.underlying18, rfl, rfl, by kernel_rfl⟩
instance : TEl Tryz.prog 18 1 8 (.agg #[.pointer none]) := ⟨by kernel_rfl, rfl, by decide⟩
instance : TZero Tryz.prog 18 [.pointer none] := ⟨.agg #[.pointer none], by kernel_rfl, rfl⟩
instance : TRow Tryz.prog 19 1 := ⟨⟨_, Tryz.underlying19, rfl⟩, by kernel_rfl⟩
instance : TFld Tryz.prog 19 0 0 := ⟨_, _, 0, Tryz.underlying19, rfl, rfl, by kernel_rfl⟩
instance : TEl Tryz.prog 19 1 8 (.agg #[.pointer none]) := ⟨by kernel_rfl, rfl, by decide⟩
instance : TZero Tryz.prog 19 [.pointer none] := ⟨.agg #[.pointer none], by kernel_rfl, rfl⟩
instance : TOne Tryz.prog 21 := ⟨⟨_, Tryz.underlying21, rfl⟩, by kernel_rfl⟩
instance : TEl Tryz.prog 21 1 4 (.int .i32 0) := ⟨by kernel_rfl, rfl, by decide⟩
instance : TZero Tryz.prog 21 [.int .i32 0] := ⟨.int .i32 0, by kernel_rfl, rfl⟩
instance : TOne Tryz.prog 22 := ⟨⟨_, Tryz.underlying22, rfl⟩, by kernel_rfl⟩
instance : TSl Tryz.prog 22 129 64 := ⟨Tryz.underlying22, by kernel_rfl⟩
instance : TEl Tryz.prog 22 1 24 (.slice none 0 0) := ⟨by kernel_rfl, rfl, by decide⟩
instance : TZero Tryz.prog 22 [.slice none 0 0] := ⟨.slice none 0 0, by kernel_rfl, rfl⟩
instance : TRow Tryz.prog 23 1 := ⟨⟨_, Tryz.underlying23, rfl⟩, by kernel_rfl⟩
instance : TFld Tryz.prog 23 0 0 := ⟨_, _, 0, Tryz.underlying23, rfl, rfl, by kernel_rfl⟩
instance : TEl Tryz.prog 23 1 24 (.agg #[.slice none 0 0]) := ⟨by kernel_rfl, rfl, by decide⟩
instance : TZero Tryz.prog 23 [.slice none 0 0] := ⟨.agg #[.slice none 0 0], by kernel_rfl, rfl⟩
instance : TRow Tryz.prog 24 1 := ⟨⟨_, Tryz.underlying24, rfl⟩, by kernel_rfl⟩
instance : TFld Tryz.prog 24 0 0 := ⟨_, _, 0, Tryz.underlying24, rfl, rfl, by kernel_rfl⟩
instance : TEl Tryz.prog 24 1 24 (.agg #[.slice none 0 0]) := ⟨by kernel_rfl, rfl, by decide⟩
instance : TZero Tryz.prog 24 [.slice none 0 0] := ⟨.agg #[.slice none 0 0], by kernel_rfl, rfl⟩
instance : TOne Tryz.prog 25 := ⟨⟨_, Tryz.underlying25, rfl⟩, by kernel_rfl⟩
instance : TSl Tryz.prog 25 135 10 := ⟨Tryz.underlying25, by kernel_rfl⟩
instance : TEl Tryz.prog 25 1 24 (.slice none 0 0) := ⟨by kernel_rfl, rfl, by decide⟩
instance : TZero Tryz.prog 25 [.slice none 0 0] := ⟨.slice none 0 0, by kernel_rfl, rfl⟩
instance : TOne Tryz.prog 26 := ⟨⟨_, Tryz.underlying26, rfl⟩, by kernel_rfl⟩
instance : TSl Tryz.prog 26 148 6 := ⟨Tryz.underlying26, by kernel_rfl⟩
instance : TEl Tryz.prog 26 1 24 (.slice none 0 0) := ⟨by kernel_rfl, rfl, by decide⟩
instance : TZero Tryz.prog 26 [.slice none 0 0] := ⟨.slice none 0 0, by kernel_rfl, rfl⟩
instance : TRow Tryz.prog 27 2 := ⟨⟨_, Tryz.underlying27, rfl⟩, by kernel_rfl⟩
instance : TFld Tryz.prog 27 0 0 := ⟨_, _, 0, Tryz.underlying27, rfl, rfl, by kernel_rfl⟩
instance : TFld Tryz.prog 27 1 1 := ⟨_, _, 0, Tryz.underlying27, rfl, rfl, by kernel_rfl⟩
instance : TEl Tryz.prog 27 2 48 (.agg #[.slice none 0 0, .slice none 0 0]) := ⟨by kernel_rfl, rfl, by decide⟩
instance : TZero Tryz.prog 27 [.slice none 0 0, .slice none 0 0] := ⟨.agg #[.slice none 0 0, .slice none 0 0], by kernel_rfl, rfl⟩
instance : TRow Tryz.prog 28 2 := ⟨⟨_, Tryz.underlying28, rfl⟩, by kernel_rfl⟩
instance : TFld Tryz.prog 28 0 0 := ⟨_, _, 0, Tryz.underlying28, rfl, rfl, by kernel_rfl⟩
instance : TFld Tryz.prog 28 1 1 := ⟨_, _, 0, Tryz.underlying28, rfl, rfl, by kernel_rfl⟩
instance : TEl Tryz.prog 28 2 48 (.agg #[.slice none 0 0, .slice none 0 0]) := ⟨by kernel_rfl, rfl, by decide⟩
instance : TZero Tryz.prog 28 [.slice none 0 0, .slice none 0 0] := ⟨.agg #[.slice none 0 0, .slice none 0 0], by kernel_rfl, rfl⟩
instance : TOne Tryz.prog 29 := ⟨⟨_, Tryz.underlying29, rfl⟩, by kernel_rfl⟩
instance : TSl Tryz.prog 29 106 5 := ⟨Tryz.underlying29, by kernel_rfl⟩
instance : TEl Tryz.prog 29 1 24 (.slice none 0 0) := ⟨by kernel_rfl, rfl, by decide⟩
instance : TZero Tryz.prog 29 [.slice none 0 0] := ⟨.slice none 0 0, by kernel_rfl, rfl⟩
instance : TRow Tryz.prog 30 8 := ⟨⟨_, Tryz.underlying30, rfl⟩, by kernel_rfl⟩
instance : TFld Tryz.prog 30 0 0 := ⟨_, _, 0, Tryz.underlying30, rfl, rfl, by kernel_rfl⟩
instance : TFld Tryz.prog 30 1 1 := ⟨_, _, 1, Tryz.underlying30, rfl, rfl, by kernel_rfl⟩
instance : TFld Tryz.prog 30 2 3 := ⟨_, _, 0, Tryz.underlying30, rfl, rfl, by kernel_rfl⟩
instance : TFld Tryz.prog 30 3 4 := ⟨_, _, 0, Tryz.underlying30, rfl, rfl, by kernel_rfl⟩
instance : TFld Tryz.prog 30 4 5 := ⟨_, _, 0, Tryz.underlying30, rfl, rfl, by kernel_rfl⟩
instance : TFld Tryz.prog 30 5 6 := ⟨_, _, 0, Tryz.underlying30, rfl, rfl, by kernel_rfl⟩
instance : TFld Tryz.prog 30 6 7 := ⟨_, _, 0, Tryz.underlying30, rfl, rfl, by kernel_rfl⟩
instance : TEl Tryz.prog 30 8 128 (.agg #[.slice none 0 0, .slice none 0 0, .slice none 0 0, .slice none 0 0, .int .i64 0, .int .i64 0, .int .i64 0, .bool false]) := ⟨by kernel_rfl, rfl, by decide⟩
instance : TZero Tryz.prog 30 [.slice none 0 0, .slice none 0 0, .slice none 0 0, .slice none 0 0, .int .i64 0, .int .i64 0, .int .i64 0, .bool false] := ⟨.agg #[.slice none 0 0, .slice none 0 0, .slice none 0 0, .slice none 0 0, .int .i64 0, .int .i64 0, .int .i64 0, .bool false], by kernel_rfl, rfl⟩
instance : TRow Tryz.prog 31 8 := ⟨⟨_, Tryz.underlying31, rfl⟩, by kernel_rfl⟩
instance : TFld Tryz.prog 31 0 0 := ⟨_, _, 0, Tryz.underlying31, rfl, rfl, by kernel_rfl⟩
instance : TFld Tryz.prog 31 1 1 := ⟨_, _, 1, Tryz.underlying31, rfl, rfl, by kernel_rfl⟩
instance : TFld Tryz.prog 31 2 3 := ⟨_, _, 0, Tryz.underlying31, rfl, rfl, by kernel_rfl⟩
instance : TFld Tryz.prog 31 3 4 := ⟨_, _, 0, Tryz.underlying31, rfl, rfl, by kernel_rfl⟩
instance : TFld Tryz.prog 31 4 5 := ⟨_, _, 0, Tryz.underlying31, rfl, rfl, by kernel_rfl⟩
instance : TFld Tryz.prog 31 5 6 := ⟨_, _, 0, Tryz.underlying31, rfl, rfl, by kernel_rfl⟩
instance : TFld Tryz.prog 31 6 7 := ⟨_, _, 0, Tryz.underlying31, rfl, rfl, by kernel_rfl⟩
instance : TEl Tryz.prog 31 8 128 (.agg #[.slice none 0 0, .slice none 0 0, .slice none 0 0, .slice none 0 0, .int .i64 0, .int .i64 0, .int .i64 0, .bool false]) := ⟨by kernel_rfl, rfl, by decide⟩
instance : TZero Tryz.prog 31 [.slice none 0 0, .slice none 0 0, .slice none 0 0, .slice none 0 0, .int .i64 0, .int .i64 0, .int .i64 0, .bool false] := ⟨.agg #[.slice none 0 0, .slice none 0 0, .slice none 0 0, .slice none 0 0, .int .i64 0, .int .i64 0, .int .i64 0, .bool false], by kernel_rfl, rfl⟩
instance : TOne Tryz.prog 33 := ⟨⟨_, Tryz.underlying33, rfl⟩, by kernel_rfl⟩
instance : TSl Tryz.prog 33 9 1 := ⟨Tryz.underlying33, by kernel_rfl⟩
instance : TEl Tryz.prog 33 1 24 (.slice none 0 0) := ⟨by kernel_rfl, rfl, by decide⟩
instance : TZero Tryz.prog 33 [.slice none 0 0] := ⟨.slice none 0 0, by kernel_rfl, rfl⟩
instance : TOne Tryz.prog 35 := ⟨⟨_, Tryz.underlying35, rfl⟩, by kernel_rfl⟩
instance : TSl Tryz.prog 35 85 64 := ⟨Tryz.underlying35, by kernel_rfl⟩
instance : TEl Tryz.prog 35 1 24 (.slice none 0 0) := ⟨by kernel_rfl, rfl, by decide⟩
instance : TZero Tryz.prog 35 [.slice none 0 0] := ⟨.slice none 0 0, by kernel_rfl, rfl⟩
instance : TRow Tryz.prog 36 1 := ⟨⟨_, Tryz.underlying36, rfl⟩, by kernel_rfl⟩
instance : TFld Tryz.prog 36 0 0 := ⟨_, _, 0, Tryz.underlying36, rfl, rfl, by kernel_rfl⟩
instance : TEl Tryz.prog 36 1 24 (.agg #[.slice none 0 0]) := ⟨by kernel_rfl, rfl, by decide⟩
instance : TZero Tryz.prog 36 [.slice none 0 0] := ⟨.agg #[.slice none 0 0], by kernel_rfl, rfl⟩
instance : TRow Tryz.prog 37 1 := ⟨⟨_, Tryz.underlying37, rfl⟩, by kernel_rfl⟩
instance : TFld Tryz.prog 37 0 0 := ⟨_, _, 0, Tryz.underlying37, rfl, rfl, by kernel_rfl⟩
instance : TEl Tryz.prog 37 1 24 (.agg #[.slice none 0 0]) := ⟨by kernel_rfl, rfl, by decide⟩
instance : TZero Tryz.prog 37 [.slice none 0 0] := ⟨.agg #[.slice none 0 0], by kernel_rfl, rfl⟩
instance : TOne Tryz.prog 38 := ⟨⟨_, Tryz.underlying38, rfl⟩, by kernel_rfl⟩
instance : TSl Tryz.prog 38 101 10 := ⟨Tryz.underlying38, by kernel_rfl⟩
instance : TEl Tryz.prog 38 1 24 (.slice none 0 0) := ⟨by kernel_rfl, rfl, by decide⟩
instance : TZero Tryz.prog 38 [.slice none 0 0] := ⟨.slice none 0 0, by kernel_rfl, rfl⟩
instance : TOne Tryz.prog 39 := ⟨⟨_, Tryz.underlying39, rfl⟩, by kernel_rfl⟩
instance : TSl Tryz.prog 39 145 6 := ⟨Tryz.underlying39, by kernel_rfl⟩
instance : TEl Tryz.prog 39 1 24 (.slice none 0 0) := ⟨by kernel_rfl, rfl, by decide⟩
instance : TZero Tryz.prog 39 [.slice none 0 0] := ⟨.slice none 0 0, by kernel_rfl, rfl⟩
instance : TRow Tryz.prog 40 2 := ⟨⟨_, Tryz.underlying40, rfl⟩, by kernel_rfl⟩
instance : TFld Tryz.prog 40 0 0 := ⟨_, _, 0, Tryz.underlying40, rfl, rfl, by kernel_rfl⟩
instance : TFld Tryz.prog 40 1 1 := ⟨_, _, 0, Tryz.underlying40, rfl, rfl, by kernel_rfl⟩
instance : TEl Tryz.prog 40 2 48 (.agg #[.slice none 0 0, .slice none 0 0]) := ⟨by kernel_rfl, rfl, by decide⟩
instance : TZero Tryz.prog 40 [.slice none 0 0, .slice none 0 0] := ⟨.agg #[.slice none 0 0, .slice none 0 0], by kernel_rfl, rfl⟩
instance : TRow Tryz.prog 41 2 := ⟨⟨_, Tryz.underlying41, rfl⟩, by kernel_rfl⟩
instance : TFld Tryz.prog 41 0 0 := ⟨_, _, 0, Tryz.underlying41, rfl, rfl, by kernel_rfl⟩
instance : TFld Tryz.prog 41 1 1 := ⟨_, _, 0, Tryz.underlying41, rfl, rfl, by kernel_rfl⟩
instance : TEl Tryz.prog 41 2 48 (.agg #[.slice none 0 0, .slice none 0 0]) := ⟨by kernel_rfl, rfl, by decide⟩
instance : TZero Tryz.prog 41 [.slice none 0 0, .slice none 0 0] := ⟨.agg #[.slice none 0 0, .slice none 0 0], by kernel_rfl, rfl⟩
instance : TOne Tryz.prog 42 := ⟨⟨_, Tryz.underlying42, rfl⟩, by kernel_rfl⟩
instance : TSl Tryz.prog 42 91 5 := ⟨Tryz.underlying42, by kernel_rfl⟩
instance : TEl Tryz.prog 42 1 24 (.slice none 0 0) := ⟨by kernel_rfl, rfl, by decide⟩
instance : TZero Tryz.prog 42 [.slice none 0 0] := ⟨.slice none 0 0, by kernel_rfl, rfl⟩
instance : TRow Tryz.prog 43 8 := ⟨⟨_, Tryz.underlying43, rfl⟩, by kernel_rfl⟩
instance : TFld Tryz.prog 43 0 0 := ⟨_, _, 0, Tryz.underlying43, rfl, rfl, by kernel_rfl⟩
instance : TFld Tryz.prog 43 1 1 := ⟨_, _, 1, Tryz.underlying43, rfl, rfl, by kernel_rfl⟩
instance : TFld Tryz.prog 43 2 3 := ⟨_, _, 0, Tryz.underlying43, rfl, rfl, by kernel_rfl⟩
instance : TFld Tryz.prog 43 3 4 := ⟨_, _, 0, Tryz.underlying43, rfl, rfl, by kernel_rfl⟩
instance : TFld Tryz.prog 43 4 5 := ⟨_, _, 0, Tryz.underlying43, rfl, rfl, by kernel_rfl⟩
instance : TFld Tryz.prog 43 5 6 := ⟨_, _, 0, Tryz.underlying43, rfl, rfl, by kernel_rfl⟩
instance : TFld Tryz.prog 43 6 7 := ⟨_, _, 0, Tryz.underlying43, rfl, rfl, by kernel_rfl⟩
instance : TEl Tryz.prog 43 8 128 (.agg #[.slice none 0 0, .slice none 0 0, .slice none 0 0, .slice none 0 0, .int .i64 0, .int .i64 0, .int .i64 0, .bool false]) := ⟨by kernel_rfl, rfl, by decide⟩
instance : TZero Tryz.prog 43 [.slice none 0 0, .slice none 0 0, .slice none 0 0, .slice none 0 0, .int .i64 0, .int .i64 0, .int .i64 0, .bool false] := ⟨.agg #[.slice none 0 0, .slice none 0 0, .slice none 0 0, .slice none 0 0, .int .i64 0, .int .i64 0, .int .i64 0, .bool false], by kernel_rfl, rfl⟩
instance : TRow Tryz.prog 44 8 := ⟨⟨_, Tryz.underlying44, rfl⟩, by kernel_rfl⟩
instance : TFld Tryz.prog 44 0 0 := ⟨_, _, 0, Tryz.underlying44, rfl, rfl, by kernel_rfl⟩
instance : TFld Tryz.prog 44 1 1 := ⟨_, _, 1, Tryz.underlying44, rfl, rfl, by kernel_rfl⟩
instance : TFld Tryz.prog 44 2 3 := ⟨_, _, 0, Tryz.underlying44, rfl, rfl, by kernel_rfl⟩
instance : TFld Tryz.prog 44 3 4 := ⟨_, _, 0, Tryz.underlying44, rfl, rfl, by kernel_rfl⟩
instance : TFld Tryz.prog 44 4 5 := ⟨_, _, 0, Tryz.underlying44, rfl, rfl, by kernel_rfl⟩
instance : TFld Tryz.prog 44 5 6 := ⟨_, _, 0, Tryz.underlying44, rfl, rfl, by kernel_rfl⟩
instance : TFld Tryz.prog 44 6 7 := ⟨_, _, 0, Tryz.underlying44, rfl, rfl, by kernel_rfl⟩
instance : TEl Tryz.prog 44 8 128 (.agg #[.slice none 0 0, .slice none 0 0, .slice none 0 0, .slice none 0 0, .int .i64 0, .int .i64 0, .int .i64 0, .bool false]) := ⟨by kernel_rfl, rfl, by decide⟩
instance : TZero Tryz.prog 44 [.slice none 0 0, .slice none 0 0, .slice none 0 0, .slice none 0 0, .int .i64 0, .int .i64 0, .int .i64 0, .bool false] := ⟨.agg #[.slice none 0 0, .slice none 0 0, .slice none 0 0, .slice none 0 0, .int .i64 0, .int .i64 0, .int .i64 0, .bool false], by kernel_rfl, rfl⟩
instance : TOne Tryz.prog 72 := ⟨⟨_, Tryz.underlying72, rfl⟩, by kernel_rfl⟩
instance : TSl Tryz.prog 72 3 1 := ⟨Tryz.underlying72, by kernel_rfl⟩
instance : TEl Tryz.prog 72 1 24 (.slice none 0 0) := ⟨by kernel_rfl, rfl, by decide⟩
instance : TZero Tryz.prog 72 [.slice none 0 0] := ⟨.slice none 0 0, by kernel_rfl, rfl⟩
instance : TRow Tryz.prog 73 2 := ⟨⟨_, Tryz.underlying73, rfl⟩, by kernel_rfl⟩
instance : TFld Tryz.prog 73 0 0 := ⟨_, _, 0, Tryz.underlying73, rfl, rfl, by kernel_rfl⟩
instance : TFld Tryz.prog 73 1 1 := ⟨_, _, 0, Tryz.underlying73, rfl, rfl, by kernel_rfl⟩
instance : TEq Tryz.prog 73 [0, 0] := ⟨by kernel_rfl, by kernel_rfl, _, Tryz.underlying73⟩
instance : TEl Tryz.prog 73 2 16 (.agg #[.int .i64 0, .int .i64 0]) := ⟨by kernel_rfl, rfl, by decide⟩
instance : TZero Tryz.prog 73 [.int .i64 0, .int .i64 0] := ⟨.agg #[.int .i64 0, .int .i64 0], by kernel_rfl, rfl⟩
instance : TRow Tryz.prog 74 2 := ⟨⟨_, Tryz.underlying74, rfl⟩, by kernel_rfl⟩
instance : TFld Tryz.prog 74 0 0 := ⟨_, _, 0, Tryz.underlying74, rfl, rfl, by kernel_rfl⟩
instance : TFld Tryz.prog 74 1 1 := ⟨_, _, 0, Tryz.underlying74, rfl, rfl, by kernel_rfl⟩
instance : TEq Tryz.prog 74 [0, 0] := ⟨by kernel_rfl, by kernel_rfl, _, Tryz.underlying74⟩
instance : TEl Tryz.prog 74 2 16 (.agg #[.int .i64 0, .int .i64 0]) := ⟨by kernel_rfl, rfl, by decide⟩
instance : TZero Tryz.prog 74 [.int .i64 0, .int .i64 0] := ⟨.agg #[.int .i64 0, .int .i64 0], by kernel_rfl, rfl⟩
instance : TRow Tryz.prog 75 12 := ⟨⟨_, Tryz.underlying75, rfl⟩, by kernel_rfl⟩
instance : TFld Tryz.prog 75 0 0 := ⟨_, _, 1, Tryz.underlying75, rfl, rfl, by kernel_rfl⟩
instance : TFld Tryz.prog 75 1 2 := ⟨_, _, 1, Tryz.underlying75, rfl, rfl, by kernel_rfl⟩
instance : TFld Tryz.prog 75 2 4 := ⟨_, _, 1, Tryz.underlying75, rfl, rfl, by kernel_rfl⟩
instance : TFld Tryz.prog 75 3 6 := ⟨_, _, 1, Tryz.underlying75, rfl, rfl, by kernel_rfl⟩
instance : TFld Tryz.prog 75 4 8 := ⟨_, _, 1, Tryz.underlying75, rfl, rfl, by kernel_rfl⟩
instance : TFld Tryz.prog 75 5 10 := ⟨_, _, 1, Tryz.underlying75, rfl, rfl, by kernel_rfl⟩
instance : TEq Tryz.prog 75 [0, 0, 0, 0, 0, 0, 0, 0, 0, 0, 0, 0] := ⟨by kernel_rfl, by kernel_rfl, _, Tryz.underlying75⟩
instance : TEl Tryz.prog 75 12 96 (.agg #[.int .i64 0, .int .i64 0, .int .i64 0, .int .i64 0, .int .i64 0, .int .i64 0, .int .i64 0, .int .i64 0, .int .i64 0, .int .i64 0, .int .i64 0, .int .i64 0]) := ⟨by kernel_rfl, rfl, by decide⟩
instance : TZero Tryz.prog 75 [.int .i64 0, .int .i64 0, .int .i64 0, .int .i64 0, .int .i64 0, .int .i64 0, .int .i64 0, .int .i64 0, .int .i64 0, .int .i64 0, .int .i64 0, .int .i64 0] := ⟨.agg #[.int .i64 0, .int .i64 0, .int .i64 0, .int .i64 0, .int .i64 0, .int .i64 0, .int .i64 0, .int .i64 0, .int .i64 0, .int .i64 0, .int .i64 0, .int .i64 0], by kernel_rfl, rfl⟩
instance : TRow Tryz.prog 76 12 := ⟨⟨_, Tryz.underlying76, rfl⟩, by kernel_rfl⟩
instance : TFld Tryz.prog 76 0 0 := ⟨_, _, 1, Tryz.underlying76, rfl, rfl, by kernel_rfl⟩
instance : TFld Tryz.prog 76 1 2 := ⟨_, _, 1, Tryz.underlying76, rfl, rfl, by kernel_rfl⟩
instance : TFld Tryz.prog 76 2 4 := ⟨_, _, 1, Tryz.underlying76, rfl, rfl, by kernel_rfl⟩
instance : TFld Tryz.prog 76 3 6 := ⟨_, _, 1, Tryz.underlying76, rfl, rfl, by kernel_rfl⟩
instance : TFld Tryz.prog 76 4 8 := ⟨_, _, 1, Tryz.underlying76, rfl, rfl, by kernel_rfl⟩
instance : TFld Tryz.prog 76 5 10 := ⟨_, _, 1, Tryz.underlying76, rfl, rfl, by kernel_rfl⟩
instance : TEq Tryz.prog 76 [0, 0, 0, 0, 0, 0, 0, 0, 0, 0, 0, 0] := ⟨by kernel_rfl, by kernel_rfl, _, Tryz.underlying76⟩
instance : TEl Tryz.prog 76 12 96 (.agg #[.int .i64 0, .int .i64 0, .int .i64 0, .int .i64 0, .int .i64 0, .int .i64 0, .int .i64 0, .int .i64 0, .int .i64 0, .int .i64 0, .int .i64 0, .int .i64 0]) := ⟨by kernel_rfl, rfl, by decide⟩
instance : TZero Tryz.prog 76 [.int .i64 0, .int .i64 0, .int .i64 0, .int .i64 0, .int .i64 0, .int .i64 0, .int .i64 0, .int .i64 0, .int .i64 0, .int .i64 0, .int .i64 0, .int .i64 0] := ⟨.agg #[.int .i64 0, .int .i64 0, .int .i64 0, .int .i64 0, .int .i64 0, .int .i64 0, .int .i64 0, .int .i64 0, .int .i64 0, .int .i64 0, .int .i64 0, .int .i64 0], by kernel_rfl, rfl⟩
instance : TRow Tryz.prog 77 4 := ⟨⟨_, Tryz.underlying77, rfl⟩, by kernel_rfl⟩
instance : TFld Tryz.prog 77 0 0 := ⟨_, _, 0, Tryz.underlying77, rfl, rfl, by kernel_rfl⟩
instance : TFld Tryz.prog 77 1 1 := ⟨_, _, 0, Tryz.underlying77, rfl, rfl, by kernel_rfl⟩
instance : TFld Tryz.prog 77 2 2 := ⟨_, _, 0, Tryz.underlying77, rfl, rfl, by kernel_rfl⟩
instance : TFld Tryz.prog 77 3 3 := ⟨_, _, 0, Tryz.underlying77, rfl, rfl, by kernel_rfl⟩
instance : TEq Tryz.prog 77 [0, 0, 0, 0] := ⟨by kernel_rfl, by kernel_rfl, _, Tryz.underlying77⟩
instance : TEl Tryz.prog 77 4 32 (.agg #[.int .i64 0, .int .i64 0, .int .i64 0, .int .i64 0]) := ⟨by kernel_rfl, rfl, by decide⟩
instance : TZero Tryz.prog 77 [.int .i64 0, .int .i64 0, .int .i64 0, .int .i64 0] := ⟨.agg #[.int .i64 0, .int .i64 0, .int .i64 0, .int .i64 0], by kernel_rfl, rfl⟩
instance : TRow Tryz.prog 78 4 := ⟨⟨_, Tryz.underlying78, rfl⟩, by kernel_rfl⟩
instance : TFld Tryz.prog 78 0 0 := ⟨_, _, 0, Tryz.underlying78, rfl, rfl, by kernel_rfl⟩
instance : TFld Tryz.prog 78 1 1 := ⟨_, _, 0, Tryz.underlying78, rfl, rfl, by kernel_rfl⟩
instance : TFld Tryz.prog 78 2 2 := ⟨_, _, 0, Tryz.underlying78, rfl, rfl, by kernel_rfl⟩
instance : TFld Tryz.prog 78 3 3 := ⟨_, _, 0, Tryz.underlying78, rfl, rfl, by kernel_rfl⟩
instance : TEq Tryz.prog 78 [0, 0, 0, 0] := ⟨by kernel_rfl, by kernel_rfl, _, Tryz.underlying78⟩
instance : TEl Tryz.prog 78 4 32 (.agg #[.int .i64 0, .int .i64 0, .int .i64 0, .int .i64 0]) := ⟨by kernel_rfl, rfl, by decide⟩
instance : TZero Tryz.prog 78 [.int .i64 0, .int .i64 0, .int .i64 0, .int .i64 0] := ⟨.agg #[.int .i64 0, .int .i64 0, .int .i64 0, .int .i64 0], by kernel_rfl, rfl⟩
instance : TRow Tryz.prog 79 60 := ⟨⟨_, Tryz.underlying79, rfl⟩, by kernel_rfl⟩
instance : TFld Tryz.prog 79 0 0 := ⟨_, _, 0, Tryz.underlying79, rfl, rfl, by kernel_rfl⟩
instance : TFld Tryz.prog 79 1 1 := ⟨_, _, 0, Tryz.underlying79, rfl, rfl, by kernel_rfl⟩
instance : TFld Tryz.prog 79 2 2 := ⟨_, _, 0, Tryz.underlying79, rfl, rfl, by kernel_rfl⟩
instance : TFld Tryz.prog 79 3 3 := ⟨_, _, 0, Tryz.underlying79, rfl, rfl, by kernel_rfl⟩
instance : TFld Tryz.prog 79 4 4 := ⟨_, _, 0, Tryz.underlying79, rfl, rfl, by kernel_rfl⟩
instance : TFld Tryz.prog 79 5 5 := ⟨_, _, 0, Tryz.underlying79, rfl, rfl, by kernel_rfl⟩
instance : TFld Tryz.prog 79 6 6 := ⟨_, _, 0, Tryz.underlying79, rfl, rfl, by kernel_rfl⟩
instance : TFld Tryz.prog 79 7 7 := ⟨_, _, 0, Tryz.underlying79, rfl, rfl, by kernel_rfl⟩
instance : TFld Tryz.prog 79 8 8 := ⟨_, _, 0, Tryz.underlying79, rfl, rfl, by kernel_rfl⟩
instance : TFld Tryz.prog 79 9 9 := ⟨_, _, 0, Tryz.underlying79, rfl, rfl, by kernel_rfl⟩
instance : TFld Tryz.prog 79 10 10 := ⟨_, _, 0, Tryz.underlying79, rfl, rfl, by kernel_rfl⟩
instance : TFld Tryz.prog 79 11 11 := ⟨_, _, 1, Tryz.underlying79, rfl, rfl, by kernel_rfl⟩
instance : TFld Tryz.prog 79 12 13 := ⟨_, _, 1, Tryz.underlying79, rfl, rfl, by kernel_rfl⟩
instance : TFld Tryz.prog 79 13 15 := ⟨_, _, 1, Tryz.underlying79, rfl, rfl, by kernel_rfl⟩
instance : TFld Tryz.prog 79 14 17 := ⟨_, _, 1, Tryz.underlying79, rfl, rfl, by kernel_rfl⟩
instance : TFld Tryz.prog 79 15 19 := ⟨_, _, 1, Tryz.underlying79, rfl, rfl, by kernel_rfl⟩
instance : TFld Tryz.prog 79 16 21 := ⟨_, _, 1, Tryz.underlying79, rfl, rfl, by kernel_rfl⟩
instance : TFld Tryz.prog 79 17 23 := ⟨_, _, 1, Tryz.underlying79, rfl, rfl, by kernel_rfl⟩
instance : TFld Tryz.prog 79 18 25 := ⟨_, _, 0, Tryz.underlying79, rfl, rfl, by kernel_rfl⟩
instance : TFld Tryz.prog 79 19 26 := ⟨_, _, 11, Tryz.underlying79, rfl, rfl, by kernel_rfl⟩
instance : TFld Tryz.prog 79 20 38 := ⟨_, _, 11, Tryz.underlying79, rfl, rfl, by kernel_rfl⟩
instance : TFld Tryz.prog 79 21 50 := ⟨_, _, 3, Tryz.underlying79, rfl, rfl, by kernel_rfl⟩
instance : TFld Tryz.prog 79 22 54 := ⟨_, _, 3, Tryz.underlying79, rfl, rfl, by kernel_rfl⟩
instance : TFld Tryz.prog 79 23 58 := ⟨_, _, 0, Tryz.underlying79, rfl, rfl, by kernel_rfl⟩
instance : TFld Tryz.prog 79 24 59 := ⟨_, _, 0, Tryz.underlying79, rfl, rfl, by kernel_rfl⟩
instance : TEq Tryz.prog 79 [0, 0, 0, 0, 0, 0, 1, 1, 0, 0, 0, 0, 0, 0, 0, 0, 0, 0, 0, 0, 0, 0, 0, 0, 0, 0, 0, 0, 0, 0, 0, 0, 0, 0, 0, 0, 0, 0, 0, 0, 0, 0, 0, 0, 0, 0, 0, 0, 0, 0, 0, 0, 0, 0, 0, 0, 0, 0, 0, 0] := ⟨by kernel_rfl, by kernel_rfl, _, Tryz.underlying79⟩
instance : TEl Tryz.prog 79 60 472 (.agg #[.int .i64 0, .int .i64 0, .int .i64 0, .int .i64 0, .int .i64 0, .int .i64 0, .bool false, .bool false, .int .i64 0, .int .i64 0, .int .i64 0, .int .i64 0, .int .i64 0, .int .i64 0, .int .i64 0, .int .i64 0, .int .i64 0, .int .i64 0, .int .i64 0, .int .i64 0, .int .i64 0, .int .i64 0, .int .i64 0, .int .i64 0, .int .i64 0, .int .i64 0, .int .i64 0, .int .i64 0, .int .i64 0, .int .i64 0, .int .i64 0, .int .i64 0, .int .i64 0, .int .i64 0, .int .i64 0, .int .i64 0, .int .i64 0, .int .i64 0, .int .i64 0, .int .i64 0, .int .i64 0, .int .i64 0, .int .i64 0, .int .i64 0, .int .i64 0, .int .i64 0, .int .i64 0, .int .i64 0, .int .i64 0, .int .i64 0, .int .i64 0, .int .i64 0, .int .i64 0, .int .i64 0, .int .i64 0, .int .i64 0, .int .i64 0, .int .i64 0, .int .i64 0, .int .i64 0]) := ⟨by kernel_rfl, rfl, by decide⟩
instance : TZero Tryz.prog 79 [.int .i64 0, .int .i64 0, .int .i64 0, .int .i64 0, .int .i64 0, .int .i64 0, .bool false, .bool false, .int .i64 0, .int .i64 0, .int .i64 0, .int .i64 0, .int .i64 0, .int .i64 0, .int .i64 0, .int .i64 0, .int .i64 0, .int .i64 0, .int .i64 0, .int .i64 0, .int .i64 0, .int .i64 0, .int .i64 0, .int .i64 0, .int .i64 0, .int .i64 0, .int .i64 0, .int .i64 0, .int .i64 0, .int .i64 0, .int .i64 0, .int .i64 0, .int .i64 0, .int .i64 0, .int .i64 0, .int .i64 0, .int .i64 0, .int .i64 0, .int .i64 0, .int .i64 0, .int .i64 0, .int .i64 0, .int .i64 0, .int .i64 0, .int .i64 0, .int .i64 0, .int .i64 0, .int .i64 0, .int .i64 0, .int .i64 0, .int .i64 0, .int .i64 0, .int .i64 0, .int .i64 0, .int .i64 0, .int .i64 0, .int .i64 0, .int .i64 0, .int .i64 0, .int .i64 0] := ⟨.agg #[.int .i64 0, .int .i64 0, .int .i64 0, .int .i64 0, .int .i64 0, .int .i64 0, .bool false, .bool false, .int .i64 0, .int .i64 0, .int .i64 0, .int .i64 0, .int .i64 0, .int .i64 0, .int .i64 0, .int .i64 0, .int .i64 0, .int .i64 0, .int .i64 0, .int .i64 0, .int .i64 0, .int .i64 0, .int .i64 0, .int .i64 0, .int .i64 0, .int .i64 0, .int .i64 0, .int .i64 0, .int .i64 0, .int .i64 0, .int .i64 0, .int .i64 0, .int .i64 0, .int .i64 0, .int .i64 0, .int .i64 0, .int .i64 0, .int .i64 0, .int .i64 0, .int .i64 0, .int .i64 0, .int .i64 0, .int .i64 0, .int .i64 0, .int .i64 0, .int .i64 0, .int .i64 0, .int .i64 0, .int .i64 0, .int .i64 0, .int .i64 0, .int .i64 0, .int .i64 0, .int .i64 0, .int .i64 0, .int .i64 0, .int .i64 0, .int .i64 0, .int .i64 0, .int .i64 0], by kernel_rfl, rfl⟩
instance : TRow Tryz.prog 80 60 := ⟨⟨_, Tryz.underlying80, rfl⟩, by kernel_rfl⟩
instance : TFld Tryz.prog 80 0 0 := ⟨_, _, 0, Tryz.underlying80, rfl, rfl, by kernel_rfl⟩
instance : TFld Tryz.prog 80 1 1 := ⟨_, _, 0, Tryz.underlying80, rfl, rfl, by kernel_rfl⟩
instance : TFld Tryz.prog 80 2 2 := ⟨_, _, 0, Tryz.underlying80, rfl, rfl, by kernel_rfl⟩
instance : TFld Tryz.prog 80 3 3 := ⟨_, _, 0, Tryz.underlying80, rfl, rfl, by kernel_rfl⟩
instance : TFld Tryz.prog 80 4 4 := ⟨_, _, 0, Tryz.underlying80, rfl, rfl, by kernel_rfl⟩
instance : TFld Tryz.prog 80 5 5 := ⟨_, _, 0, Tryz.underlying80, rfl, rfl, by kernel_rfl⟩
instance : TFld Tryz.prog 80 6 6 := ⟨_, _, 0, Tryz.underlying80, rfl, rfl, by kernel_rfl⟩
instance : TFld Tryz.prog 80 7 7 := ⟨_, _, 0, Tryz.underlying80, rfl, rfl, by kernel_rfl⟩
instance : TFld Tryz.prog 80 8 8 := ⟨_, _, 0, Tryz.underlying80, rfl, rfl, by kernel_rfl⟩
instance : TFld Tryz.prog 80 9 9 := ⟨_, _, 0, Tryz.underlying80, rfl, rfl, by kernel_rfl⟩
instance : TFld Tryz.prog 80 10 10 := ⟨_, _, 0, Tryz.underlying80, rfl, rfl, by kernel_rfl⟩
instance : TFld Tryz.prog 80 11 11 := ⟨_, _, 1, Tryz.underlying80, rfl, rfl, by kernel_rfl⟩
instance : TFld Tryz.prog 80 12 13 := ⟨_, _, 1, Tryz.underlying80, rfl, rfl, by kernel_rfl⟩
instance : TFld Tryz.prog 80 13 15 := ⟨_, _, 1, Tryz.underlying80, rfl, rfl, by kernel_rfl⟩
instance : TFld Tryz.prog 80 14 17 := ⟨_, _, 1, Tryz.underlying80, rfl, rfl, by kernel_rfl⟩
instance : TFld Tryz.prog 80 15 19 := ⟨_, _, 1, Tryz.underlying80, rfl, rfl, by kernel_rfl⟩
instance : TFld Tryz.prog 80 16 21 := ⟨_, _, 1, Tryz.underlying80, rfl, rfl, by kernel_rfl⟩
instance : TFld Tryz.prog 80 17 23 := ⟨_, _, 1, Tryz.underlying80, rfl, rfl, by kernel_rfl⟩
instance : TFld Tryz.prog 80 18 25 := ⟨_, _, 0, Tryz.underlying80, rfl, rfl, by kernel_rfl⟩
instance : TFld Tryz.prog 80 19 26 := ⟨_, _, 11, Tryz.underlying80, rfl, rfl, by kernel_rfl⟩
instance : TFld Tryz.prog 80 20 38 := ⟨_, _, 11, Tryz.underlying80, rfl, rfl, by kernel_rfl⟩
instance : TFld Tryz.prog 80 21 50 := ⟨_, _, 3, Tryz.underlying80, rfl, rfl, by kernel_rfl⟩
instance : TFld Tryz.prog 80 22 54 := ⟨_, _, 3, Tryz.underlying80, rfl, rfl, by kernel_rfl⟩
instance : TFld Tryz.prog 80 23 58 := ⟨_, _, 0, Tryz.underlying80, rfl, rfl, by kernel_rfl⟩
instance : TFld Tryz.prog 80 24 59 := ⟨_, _, 0, Tryz.underlying80, rfl, rfl, by kernel_rfl⟩
instance : TEq Tryz.prog 80 [0, 0, 0, 0, 0, 0, 1, 1, 0, 0, 0, 0, 0, 0, 0, 0, 0, 0, 0, 0, 0, 0, 0, 0, 0, 0, 0, 0, 0, 0, 0, 0, 0, 0, 0, 0, 0, 0, 0, 0, 0, 0, 0, 0, 0, 0, 0, 0, 0, 0, 0, 0, 0, 0, 0, 0, 0, 0, 0, 0] := ⟨by kernel_rfl, by kernel_rfl, _, Tryz.underlying80⟩
instance : TEl Tryz.prog 80 60 472 (.agg #[.int .i64 0, .int .i64 0, .int .i64 0, .int .i64 0, .int .i64 0, .int .i64 0, .bool false, .bool false, .int .i64 0, .int .i64 0, .int .i64 0, .int .i64 0, .int .i64 0, .int .i64 0, .int .i64 0, .int .i64 0, .int .i64 0, .int .i64 0, .int .i64 0, .int .i64 0, .int .i64 0, .int .i64 0, .int .i64 0, .int .i64 0, .int .i64 0, .int .i64 0, .int .i64 0, .int .i64 0, .int .i64 0, .int .i64 0, .int .i64 0, .int .i64 0, .int .i64 0, .int .i64 0, .int .i64 0, .int .i64 0, .int .i64 0, .int .i64 0, .int .i64 0, .int .i64 0, .int .i64 0, .int .i64 0, .int .i64 0, .int .i64 0, .int .i64 0, .int .i64 0, .int .i64 0, .int .i64 0, .int .i64 0, .int .i64 0, .int .i64 0, .int .i64 0, .int .i64 0, .int .i64 0, .int .i64 0, .int .i64 0, .int .i64 0, .int .i64 0, .int .i64 0, .int .i64 0]) := ⟨by kernel_rfl, rfl, by decide⟩
instance : TZero Tryz.prog 80 [.int .i64 0, .int .i64 0, .int .i64 0, .int .i64 0, .int .i64 0, .int .i64 0, .bool false, .bool false, .int .i64 0, .int .i64 0, .int .i64 0, .int .i64 0, .int .i64 0, .int .i64 0, .int .i64 0, .int .i64 0, .int .i64 0, .int .i64 0, .int .i64 0, .int .i64 0, .int .i64 0, .int .i64 0, .int .i64 0, .int .i64 0, .int .i64 0, .int .i64 0, .int .i64 0, .int .i64 0, .int .i64 0, .int .i64 0, .int .i64 0, .int .i64 0, .int .i64 0, .int .i64 0, .int .i64 0, .int .i64 0, .int .i64 0, .int .i64 0, .int .i64 0, .int .i64 0, .int .i64 0, .int .i64 0, .int .i64 0, .int .i64 0, .int .i64 0, .int .i64 0, .int .i64 0, .int .i64 0, .int .i64 0, .int .i64 0, .int .i64 0, .int .i64 0, .int .i64 0, .int .i64 0, .int .i64 0, .int .i64 0, .int .i64 0, .int .i64 0, .int .i64 0, .int .i64 0] := ⟨.agg #[.int .i64 0, .int .i64 0, .int .i64 0, .int .i64 0, .int .i64 0, .int .i64 0, .bool false, .bool false, .int .i64 0, .int .i64 0, .int .i64 0, .int .i64 0, .int .i64 0, .int .i64 0, .int .i64 0, .int .i64 0, .int .i64 0, .int .i64 0, .int .i64 0, .int .i64 0, .int .i64 0, .int .i64 0, .int .i64 0, .int .i64 0, .int .i64 0, .int .i64 0, .int .i64 0, .int .i64 0, .int .i64 0, .int .i64 0, .int .i64 0, .int .i64 0, .int .i64 0, .int .i64 0, .int .i64 0, .int .i64 0, .int .i64 0, .int .i64 0, .int .i64 0, .int .i64 0, .int .i64 0, .int .i64 0, .int .i64 0, .int .i64 0, .int .i64 0, .int .i64 0, .int .i64 0, .int .i64 0, .int .i64 0, .int .i64 0, .int .i64 0, .int .i64 0, .int .i64 0, .int .i64 0, .int .i64 0, .int .i64 0, .int .i64 0, .int .i64 0, .int .i64 0, .int .i64 0], by kernel_rfl, rfl⟩
instance : TOne Tryz.prog 81 := ⟨⟨_, Tryz.underlying81, rfl⟩, by kernel_rfl⟩
instance : TSl Tryz.prog 81 176 3 := ⟨Tryz.underlying81, by kernel_rfl⟩
instance : TEl Tryz.prog 81 1 24 (.slice none 0 0) := ⟨by kernel_rfl, rfl, by decide⟩
instance : TZero Tryz.prog 81 [.slice none 0 0] := ⟨.slice none 0 0, by kernel_rfl, rfl⟩
instance : TRow Tryz.prog 82 1 := ⟨⟨_, Tryz.underlying82, rfl⟩, by kernel_rfl⟩
instance : TFld Tryz.prog 82 0 0 := ⟨_, _, 0, Tryz.underlying82, rfl, rfl, by kernel_rfl⟩
instance : TEl Tryz.prog 82 1 24 (.agg #[.slice none 0 0]) := ⟨by kernel_rfl, rfl, by decide⟩
instance : TZero Tryz.prog 82 [.slice none 0 0] := ⟨.agg #[.slice none 0 0], by kernel_rfl, rfl⟩
instance : TRow Tryz.prog 83 1 := ⟨⟨_, Tryz.underlying83, rfl⟩, by kernel_rfl⟩
instance : TFld Tryz.prog 83 0 0 := ⟨_, _, 0, Tryz.underlying83, rfl, rfl, by kernel_rfl⟩
instance : TEl Tryz.prog 83 1 24 (.agg #[.slice none 0 0]) := ⟨by kernel_rfl, rfl, by decide⟩
instance : TZero Tryz.prog 83 [.slice none 0 0] := ⟨.agg #[.slice none 0 0], by kernel_rfl, rfl⟩
instance : TRow Tryz.prog 84 64 := ⟨⟨_, Tryz.underlying84, rfl⟩, by kernel_rfl⟩
instance : TFld Tryz.prog 84 0 0 := ⟨_, _, 0, Tryz.underlying84, rfl, rfl, by kernel_rfl⟩
instance : TFld Tryz.prog 84 1 1 := ⟨_, _, 0, Tryz.underlying84, rfl, rfl, by kernel_rfl⟩
instance : TFld Tryz.prog 84 2 2 := ⟨_, _, 59, Tryz.underlying84, rfl, rfl, by kernel_rfl⟩
instance : TFld Tryz.prog 84 3 62 := ⟨_, _, 0, Tryz.underlying84, rfl, rfl, by kernel_rfl⟩
instance : TFld Tryz.prog 84 4 63 := ⟨_, _, 0, Tryz.underlying84, rfl, rfl, by kernel_rfl⟩
instance : TEl Tryz.prog 84 64 536 (.agg #[.int .i64 0, .slice none 0 0, .int .i64 0, .int .i64 0, .int .i64 0, .int .i64 0, .int .i64 0, .int .i64 0, .bool false, .bool false, .int .i64 0, .int .i64 0, .int .i64 0, .int .i64 0, .int .i64 0, .int .i64 0, .int .i64 0, .int .i64 0, .int .i64 0, .int .i64 0, .int .i64 0, .int .i64 0, .int .i64 0, .int .i64 0, .int .i64 0, .int .i64 0, .int .i64 0, .int .i64 0, .int .i64 0, .int .i64 0, .int .i64 0, .int .i64 0, .int .i64 0, .int .i64 0, .int .i64 0, .int .i64 0, .int .i64 0, .int .i64 0, .int .i64 0, .int .i64 0, .int .i64 0, .int .i64 0, .int .i64 0, .int .i64 0, .int .i64 0, .int .i64 0, .int .i64 0, .int .i64 0, .int .i64 0, .int .i64 0, .int .i64 0, .int .i64 0, .int .i64 0, .int .i64 0, .int .i64 0, .int .i64 0, .int .i64 0, .int .i64 0, .int .i64 0, .int .i64 0, .int .i64 0, .int .i64 0, .bool false, .slice none 0 0]) := ⟨by kernel_rfl, rfl, by decide⟩
instance : TZero Tryz.prog 84 [.int .i64 0, .slice none 0 0, .int .i64 0, .int .i64 0, .int .i64 0, .int .i64 0, .int .i64 0, .int .i64 0, .bool false, .bool false, .int .i64 0, .int .i64 0, .int .i64 0, .int .i64 0, .int .i64 0, .int .i64 0, .int .i64 0, .int .i64 0, .int .i64 0, .int .i64 0, .int .i64 0, .int .i64 0, .int .i64 0, .int .i64 0, .int .i64 0, .int .i64 0, .int .i64 0, .int .i64 0, .int .i64 0, .int .i64 0, .int .i64 0, .int .i64 0, .int .i64 0, .int .i64 0, .int .i64 0, .int .i64 0, .int .i64 0, .int .i64 0, .int .i64 0, .int .i64 0, .int .i64 0, .int .i64 0, .int .i64 0, .int .i64 0, .int .i64 0, .int .i64 0, .int .i64 0, .int .i64 0, .int .i64 0, .int .i64 0, .int .i64 0, .int .i64 0, .int .i64 0, .int .i64 0, .int .i64 0, .int .i64 0, .int .i64 0, .int .i64 0, .int .i64 0, .int .i64 0, .int .i64 0, .int .i64 0, .bool false, .slice none 0 0] := ⟨.agg #[.int .i64 0, .slice none 0 0, .int .i64 0, .int .i64 0, .int .i64 0, .int .i64 0, .int .i64 0, .int .i64 0, .bool false, .bool false, .int .i64 0, .int .i64 0, .int .i64 0, .int .i64 0, .int .i64 0, .int .i64 0, .int .i64 0, .int .i64 0, .int .i64 0, .int .i64 0, .int .i64 0, .int .i64 0, .int .i64 0, .int .i64 0, .int .i64 0, .int .i64 0, .int .i64 0, .int .i64 0, .int .i64 0, .int .i64 0, .int .i64 0, .int .i64 0, .int .i64 0, .int .i64 0, .int .i64 0, .int .i64 0, .int .i64 0, .int .i64 0, .int .i64 0, .int .i64 0, .int .i64 0, .int .i64 0, .int .i64 0, .int .i64 0, .int .i64 0, .int .i64 0, .int .i64 0, .int .i64 0, .int .i64 0, .int .i64 0, .int .i64 0, .int .i64 0, .int .i64 0, .int .i64 0, .int .i64 0, .int .i64 0, .int .i64 0, .int .i64 0, .int .i64 0, .int .i64 0, .int .i64 0, .int .i64 0, .bool false, .slice none 0 0], by kernel_rfl, rfl⟩
instance : TRow Tryz.prog 85 64 := ⟨⟨_, Tryz.underlying85, rfl⟩, by kernel_rfl⟩
instance : TFld Tryz.prog 85 0 0 := ⟨_, _, 0, Tryz.underlying85, rfl, rfl, by kernel_rfl⟩
instance : TFld Tryz.prog 85 1 1 := ⟨_, _, 0, Tryz.underlying85, rfl, rfl, by kernel_rfl⟩
instance : TFld Tryz.prog 85 2 2 := ⟨_, _, 59, Tryz.underlying85, rfl, rfl, by kernel_rfl⟩
instance : TFld Tryz.prog 85 3 62 := ⟨_, _, 0, Tryz.underlying85, rfl, rfl, by kernel_rfl⟩
instance : TFld Tryz.prog 85 4 63 := ⟨_, _, 0, Tryz.underlying85, rfl, rfl, by kernel_rfl⟩
instance : TEl Tryz.prog 85 64 536 (.agg #[.int .i64 0, .slice none 0 0, .int .i64 0, .int .i64 0, .int .i64 0, .int .i64 0, .int .i64 0, .int .i64 0, .bool false, .bool false, .int .i64 0, .int .i64 0, .int .i64 0, .int .i64 0, .int .i64 0, .int .i64 0, .int .i64 0, .int .i64 0, .int .i64 0, .int .i64 0, .int .i64 0, .int .i64 0, .int .i64 0, .int .i64 0, .int .i64 0, .int .i64 0, .int .i64 0, .int .i64 0, .int .i64 0, .int .i64 0, .int .i64 0, .int .i64 0, .int .i64 0, .int .i64 0, .int .i64 0, .int .i64 0, .int .i64 0, .int .i64 0, .int .i64 0, .int .i64 0, .int .i64 0, .int .i64 0, .int .i64 0, .int .i64 0, .int .i64 0, .int .i64 0, .int .i64 0, .int .i64 0, .int .i64 0, .int .i64 0, .int .i64 0, .int .i64 0, .int .i64 0, .int .i64 0, .int .i64 0, .int .i64 0, .int .i64 0, .int .i64 0, .int .i64 0, .int .i64 0, .int .i64 0, .int .i64 0, .bool false, .slice none 0 0]) := ⟨by kernel_rfl, rfl, by decide⟩
instance : TZero Tryz.prog 85 [.int .i64 0, .slice none 0 0, .int .i64 0, .int .i64 0, .int .i64 0, .int .i64 0, .int .i64 0, .int .i64 0, .bool false, .bool false, .int .i64 0, .int .i64 0, .int .i64 0, .int .i64 0, .int .i64 0, .int .i64 0, .int .i64 0, .int .i64 0, .int .i64 0, .int .i64 0, .int .i64 0, .int .i64 0, .int .i64 0, .int .i64 0, .int .i64 0, .int .i64 0, .int .i64 0, .int .i64 0, .int .i64 0, .int .i64 0, .int .i64 0, .int .i64 0, .int .i64 0, .int .i64 0, .int .i64 0, .int .i64 0, .int .i64 0, .int .i64 0, .int .i64 0, .int .i64 0, .int .i64 0, .int .i64 0, .int .i64 0, .int .i64 0, .int .i64 0, .int .i64 0, .int .i64 0, .int .i64 0, .int .i64 0, .int .i64 0, .int .i64 0, .int .i64 0, .int .i64 0, .int .i64 0, .int .i64 0, .int .i64 0, .int .i64 0, .int .i64 0, .int .i64 0, .int .i64 0, .int .i64 0, .int .i64 0, .bool false, .slice none 0 0] := ⟨.agg #[.int .i64 0, .slice none 0 0, .int .i64 0, .int .i64 0, .int .i64 0, .int .i64 0, .int .i64 0, .int .i64 0, .bool false, .bool false, .int .i64 0, .int .i64 0, .int .i64 0, .int .i64 0, .int .i64 0, .int .i64 0, .int .i64 0, .int .i64 0, .int .i64 0, .int .i64 0, .int .i64 0, .int .i64 0, .int .i64 0, .int .i64 0, .int .i64 0, .int .i64 0, .int .i64 0, .int .i64 0, .int .i64 0, .int .i64 0, .int .i64 0, .int .i64 0, .int .i64 0, .int .i64 0, .int .i64 0, .int .i64 0, .int .i64 0, .int .i64 0, .int .i64 0, .int .i64 0, .int .i64 0, .int .i64 0, .int .i64 0, .int .i64 0, .int .i64 0, .int .i64 0, .int .i64 0, .int .i64 0, .int .i64 0, .int .i64 0, .int .i64 0, .int .i64 0, .int .i64 0, .int .i64 0, .int .i64 0, .int .i64 0, .int .i64 0, .int .i64 0, .int .i64 0, .int .i64 0, .int .i64 0, .int .i64 0, .bool false, .slice none 0 0], by kernel_rfl, rfl⟩
instance : TRow Tryz.prog 90 5 := ⟨⟨_, Tryz.underlying90, rfl⟩, by kernel_rfl⟩
instance : TFld Tryz.prog 90 0 0 := ⟨_, _, 0, Tryz.underlying90, rfl, rfl, by kernel_rfl⟩
instance : TFld Tryz.prog 90 1 1 := ⟨_, _, 0, Tryz.underlying90, rfl, rfl, by kernel_rfl⟩
instance : TFld Tryz.prog 90 2 2 := ⟨_, _, 0, Tryz.underlying90, rfl, rfl, by kernel_rfl⟩
instance : TFld Tryz.prog 90 3 3 := ⟨_, _, 0, Tryz.underlying90, rfl, rfl, by kernel_rfl⟩
instance : TFld Tryz.prog 90 4 4 := ⟨_, _, 0, Tryz.underlying90, rfl, rfl, by kernel_rfl⟩
instance : TEq Tryz.prog 90 [0, 0, 0, 0, 0] := ⟨by kernel_rfl, by kernel_rfl, _, Tryz.underlying90⟩
instance : TEl Tryz.prog 90 5 40 (.agg #[.int .i64 0, .int .i64 0, .int .i64 0, .int .i64 0, .int .i64 0]) := ⟨by kernel_rfl, rfl, by decide⟩
instance : TZero Tryz.prog 90 [.int .i64 0, .int .i64 0, .int .i64 0, .int .i64 0, .int .i64 0] := ⟨.agg #[.int .i64 0, .int .i64 0, .int .i64 0, .int .i64 0, .int .i64 0], by kernel_rfl, rfl⟩
instance : TRow Tryz.prog 91 5 := ⟨⟨_, Tryz.underlying91, rfl⟩, by kernel_rfl⟩
instance : TFld Tryz.prog 91 0 0 := ⟨_, _, 0, Tryz.underlying91, rfl, rfl, by kernel_rfl⟩
instance : TFld Tryz.prog 91 1 1 := ⟨_, _, 0, Tryz.underlying91, rfl, rfl, by kernel_rfl⟩
instance : TFld Tryz.prog 91 2 2 := ⟨_, _, 0, Tryz.underlying91, rfl, rfl, by kernel_rfl⟩
instance : TFld Tryz.prog 91 3 3 := ⟨_, _, 0, Tryz.underlying91, rfl, rfl, by kernel_rfl⟩
instance : TFld Tryz.prog 91 4 4 := ⟨_, _, 0, Tryz.underlying91, rfl, rfl, by kernel_rfl⟩
instance : TEq Tryz.prog 91 [0, 0, 0, 0, 0] := ⟨by kernel_rfl, by kernel_rfl, _, Tryz.underlying91⟩
instance : TEl Tryz.prog 91 5 40 (.agg #[.int .i64 0, .int .i64 0, .int .i64 0, .int .i64 0, .int .i64 0]) := ⟨by kernel_rfl, rfl, by decide⟩
instance : TZero Tryz.prog 91 [.int .i64 0, .int .i64 0, .int .i64 0, .int .i64 0, .int .i64 0] := ⟨.agg #[.int .i64 0, .int .i64 0, .int .i64 0, .int .i64 0, .int .i64 0], by kernel_rfl, rfl⟩
instance : TRow Tryz.prog 96 2 := ⟨⟨_, Tryz.underlying96, rfl⟩, by kernel_rfl⟩
instance : TFld Tryz.prog 96 0 0 := ⟨_, _, 0, Tryz.underlying96, rfl, rfl, by kernel_rfl⟩
instance : TFld Tryz.prog 96 1 1 := ⟨_, _, 0, Tryz.underlying96, rfl, rfl, by kernel_rfl⟩
instance : TEq Tryz.prog 96 [0, 0] := ⟨by kernel_rfl, by kernel_rfl, _, Tryz.underlying96⟩
instance : TEl Tryz.prog 96 2 16 (.agg #[.int .i64 0, .int .i64 0]) := ⟨by kernel_rfl, rfl, by decide⟩
instance : TZero Tryz.prog 96 [.int .i64 0, .int .i64 0] := ⟨.agg #[.int .i64 0, .int .i64 0], by kernel_rfl, rfl⟩
instance : TRow Tryz.prog 97 2 := ⟨⟨_, Tryz.underlying97, rfl⟩, by kernel_rfl⟩
instance : TFld Tryz.prog 97 0 0 := ⟨_, _, 0, Tryz.underlying97, rfl, rfl, by kernel_rfl⟩
instance : TFld Tryz.prog 97 1 1 := ⟨_, _, 0, Tryz.underlying97, rfl, rfl, by kernel_rfl⟩
instance : TEq Tryz.prog 97 [0, 0] := ⟨by kernel_rfl, by kernel_rfl, _, Tryz.underlying97⟩
instance : TEl Tryz.prog 97 2 16 (.agg #[.int .i64 0, .int .i64 0]) := ⟨by kernel_rfl, rfl, by decide⟩
instance : TZero Tryz.prog 97 [.int .i64 0, .int .i64 0] := ⟨.agg #[.int .i64 0, .int .i64 0], by kernel_rfl, rfl⟩
instance : TRow Tryz.prog 98 4 := ⟨⟨_, Tryz.underlying98, rfl⟩, by kernel_rfl⟩
instance : TFld Tryz.prog 98 0 0 := ⟨_, _, 0, Tryz.underlying98, rfl, rfl, by kernel_rfl⟩
instance : TFld Tryz.prog 98 1 1 := ⟨_, _, 0, Tryz.underlying98, rfl, rfl, by kernel_rfl⟩
instance : TFld Tryz.prog 98 2 2 := ⟨_, _, 0, Tryz.underlying98, rfl, rfl, by kernel_rfl⟩
instance : TFld Tryz.prog 98 3 3 := ⟨_, _, 0, Tryz.underlying98, rfl, rfl, by kernel_rfl⟩
instance : TEl Tryz.prog 98 4 48 (.agg #[.int .i64 0, .int .i64 0, .int .i64 0, .slice none 0 0]) := ⟨by kernel_rfl, rfl, by decide⟩
instance : TZero Tryz.prog 98 [.int .i64 0, .int .i64 0, .int .i64 0, .slice none 0 0] := ⟨.agg #[.int .i64 0, .int .i64 0, .int .i64 0, .slice none 0 0], by kernel_rfl, rfl⟩
instance : TRow Tryz.prog 99 4 := ⟨⟨_, Tryz.underlying99, rfl⟩, by kernel_rfl⟩
instance : TFld Tryz.prog 99 0 0 := ⟨_, _, 0, Tryz.underlying99, rfl, rfl, by kernel_rfl⟩
instance : TFld Tryz.prog 99 1 1 := ⟨_, _, 0, Tryz.underlying99, rfl, rfl, by kernel_rfl⟩
instance : TFld Tryz.prog 99 2 2 := ⟨_, _, 0, Tryz.underlying99, rfl, rfl, by kernel_rfl⟩
instance : TFld Tryz.prog 99 3 3 := ⟨_, _, 0, Tryz.underlying99, rfl, rfl, by kernel_rfl⟩
instance : TEl Tryz.prog 99 4 48 (.agg #[.int .i64 0, .int .i64 0, .int .i64 0, .slice none 0 0]) := ⟨by kernel_rfl, rfl, by decide⟩
instance : TZero Tryz.prog 99 [.int .i64 0, .int .i64 0, .int .i64 0, .slice none 0 0] := ⟨.agg #[.int .i64 0, .int .i64 0, .int .i64 0, .slice none 0 0], by kernel_rfl, rfl⟩
instance : TRow Tryz.prog 100 10 := ⟨⟨_, Tryz.underlying100, rfl⟩, by kernel_rfl⟩
instance : TFld Tryz.prog 100 0 0 := ⟨_, _, 0, Tryz.underlying100, rfl, rfl, by kernel_rfl⟩
instance : TFld Tryz.prog 100 1 1 := ⟨_, _, 1, Tryz.underlying100, rfl, rfl, by kernel_rfl⟩
instance : TFld Tryz.prog 100 2 3 := ⟨_, _, 1, Tryz.underlying100, rfl, rfl, by kernel_rfl⟩
instance : TFld Tryz.prog 100 3 5 := ⟨_, _, 0, Tryz.underlying100, rfl, rfl, by kernel_rfl⟩
instance : TFld Tryz.prog 100 4 6 := ⟨_, _, 3, Tryz.underlying100, rfl, rfl, by kernel_rfl⟩
instance : TEl Tryz.prog 100 10 96 (.agg #[.int .i64 0, .int .i64 0, .int .i64 0, .int .i64 0, .int .i64 0, .bool false, .int .i64 0, .int .i64 0, .int .i64 0, .slice none 0 0]) := ⟨by kernel_rfl, rfl, by decide⟩
instance : TZero Tryz.prog 100 [.int .i64 0, .int .i64 0, .int .i64 0, .int .i64 0, .int .i64 0, .bool false, .int .i64 0, .int .i64 0, .int .i64 0, .slice none 0 0] := ⟨.agg #[.int .i64 0, .int .i64 0, .int .i64 0, .int .i64 0, .int .i64 0, .bool false, .int .i64 0, .int .i64 0, .int .i64 0, .slice none 0 0], by kernel_rfl, rfl⟩
instance : TRow Tryz.prog 101 10 := ⟨⟨_, Tryz.underlying101, rfl⟩, by kernel_rfl⟩
instance : TFld Tryz.prog 101 0 0 := ⟨_, _, 0, Tryz.underlying101, rfl, rfl, by kernel_rfl⟩
instance : TFld Tryz.prog 101 1 1 := ⟨_, _, 1, Tryz.underlying101, rfl, rfl, by kernel_rfl⟩
instance : TFld Tryz.prog 101 2 3 := ⟨_, _, 1, Tryz.underlying101, rfl, rfl, by kernel_rfl⟩
instance : TFld Tryz.prog 101 3 5 := ⟨_, _, 0, Tryz.underlying101, rfl, rfl, by kernel_rfl⟩
instance : TFld Tryz.prog 101 4 6 := ⟨_, _, 3, Tryz.underlying101, rfl, rfl, by kernel_rfl⟩
instance : TEl Tryz.prog 101 10 96 (.agg #[.int .i64 0, .int .i64 0, .int .i64 0, .int .i64 0, .int .i64 0, .bool false, .int .i64 0, .int .i64 0, .int .i64 0, .slice none 0 0]) := ⟨by kernel_rfl, rfl, by decide⟩
instance : TZero Tryz.prog 101 [.int .i64 0, .int .i64 0, .int .i64 0, .int .i64 0, .int .i64 0, .bool false, .int .i64 0, .int .i64 0, .int .i64 0, .slice none 0 0] := ⟨.agg #[.int .i64 0, .int .i64 0, .int .i64 0, .int .i64 0, .int .i64 0, .bool false, .int .i64 0, .int .i64 0, .int .i64 0, .slice none 0 0], by kernel_rfl, rfl⟩
instance : TRow Tryz.prog 106 5 := ⟨⟨_, Tryz.underlying106, rfl⟩, by kernel_rfl⟩
instance : TFld Tryz.prog 106 0 0 := ⟨_, _, 0, Tryz.underlying106, rfl, rfl, by kernel_rfl⟩
instance : TFld Tryz.prog 106 1 1 := ⟨_, _, 0, Tryz.underlying106, rfl, rfl, by kernel_rfl⟩
instance : TFld Tryz.prog 106 2 2 := ⟨_, _, 0, Tryz.underlying106, rfl, rfl, by kernel_rfl⟩
instance : TFld Tryz.prog 106 3 3 := ⟨_, _, 0, Tryz.underlying106, rfl, rfl, by kernel_rfl⟩
instance : TFld Tryz.prog 106 4 4 := ⟨_, _, 0, Tryz.underlying106, rfl, rfl, by kernel_rfl⟩
instance : TEq Tryz.prog 106 [0, 0, 0, 0, 0] := ⟨by kernel_rfl, by kernel_rfl, _, Tryz.underlying106⟩
instance : TEl Tryz.prog 106 5 40 (.agg #[.int .i64 0, .int .i64 0, .int .i64 0, .int .i64 0, .int .i64 0]) := ⟨by kernel_rfl, rfl, by decide⟩
instance : TZero Tryz.prog 106 [.int .i64 0, .int .i64 0, .int .i64 0, .int .i64 0, .int .i64 0] := ⟨.agg #[.int .i64 0, .int .i64 0, .int .i64 0, .int .i64 0, .int .i64 0], by kernel_rfl, rfl⟩
instance : TOne Tryz.prog 117 := ⟨⟨_, Tryz.underlying117, rfl⟩, by kernel_rfl⟩
instance : TSl Tryz.prog 117 5 1 := ⟨Tryz.underlying117, by kernel_rfl⟩
instance : TEl Tryz.prog 117 1 24 (.slice none 0 0) := ⟨by kernel_rfl, rfl, by decide⟩
instance : TZero Tryz.prog 117 [.slice none 0 0] := ⟨.slice none 0 0, by kernel_rfl, rfl⟩
instance : TRow Tryz.prog 119 2 := ⟨⟨_, Tryz.underlying119, rfl⟩, by kernel_rfl⟩
instance : TFld Tryz.prog 119 0 0 := ⟨_, _, 0, Tryz.underlying119, rfl, rfl, by kernel_rfl⟩
instance : TFld Tryz.prog 119 1 1 := ⟨_, _, 0, Tryz.underlying119, rfl, rfl, by kernel_rfl⟩
instance : TEq Tryz.prog 119 [0, 0] := ⟨by kernel_rfl, by kernel_rfl, _, Tryz.underlying119⟩
instance : TEl Tryz.prog 119 2 16 (.agg #[.int .i64 0, .int .i64 0]) := ⟨by kernel_rfl, rfl, by decide⟩
instance : TZero Tryz.prog 119 [.int .i64 0, .int .i64 0] := ⟨.agg #[.int .i64 0, .int .i64 0], by kernel_rfl, rfl⟩
instance : TRow Tryz.prog 120 12 := ⟨⟨_, Tryz.underlying120, rfl⟩, by kernel_rfl⟩
instance : TFld Tryz.prog 120 0 0 := ⟨_, _, 1, Tryz.underlying120, rfl, rfl, by kernel_rfl⟩
instance : TFld Tryz.prog 120 1 2 := ⟨_, _, 1, Tryz.underlying120, rfl, rfl, by kernel_rfl⟩
instance : TFld Tryz.prog 120 2 4 := ⟨_, _, 1, Tryz.underlying120, rfl, rfl, by kernel_rfl⟩
instance : TFld Tryz.prog 120 3 6 := ⟨_, _, 1, Tryz.underlying120, rfl, rfl, by kernel_rfl⟩
instance : TFld Tryz.prog 120 4 8 := ⟨_, _, 1, Tryz.underlying120, rfl, rfl, by kernel_rfl⟩
instance : TFld Tryz.prog 120 5 10 := ⟨_, _, 1, Tryz.underlying120, rfl, rfl, by kernel_rfl⟩
instance : TEq Tryz.prog 120 [0, 0, 0, 0, 0, 0, 0, 0, 0, 0, 0, 0] := ⟨by kernel_rfl, by kernel_rfl, _, Tryz.underlying120⟩
instance : TEl Tryz.prog 120 12 96 (.agg #[.int .i64 0, .int .i64 0, .int .i64 0, .int .i64 0, .int .i64 0, .int .i64 0, .int .i64 0, .int .i64 0, .int .i64 0, .int .i64 0, .int .i64 0, .int .i64 0]) := ⟨by kernel_rfl, rfl, by decide⟩
instance : TZero Tryz.prog 120 [.int .i64 0, .int .i64 0, .int .i64 0, .int .i64 0, .int .i64 0, .int .i64 0, .int .i64 0, .int .i64 0, .int .i64 0, .int .i64 0, .int .i64 0, .int .i64 0] := ⟨.agg #[.int .i64 0, .int .i64 0, .int .i64 0, .int .i64 0, .int .i64 0, .int .i64 0, .int .i64 0, .int .i64 0, .int .i64 0, .int .i64 0, .int .i64 0, .int .i64 0], by kernel_rfl, rfl⟩
instance : TRow Tryz.prog 121 12 := ⟨⟨_, Tryz.underlying121, rfl⟩, by kernel_rfl⟩
instance : TFld Tryz.prog 121 0 0 := ⟨_, _, 1, Tryz.underlying121, rfl, rfl, by kernel_rfl⟩
instance : TFld Tryz.prog 121 1 2 := ⟨_, _, 1, Tryz.underlying121, rfl, rfl, by kernel_rfl⟩
instance : TFld Tryz.prog 121 2 4 := ⟨_, _, 1, Tryz.underlying121, rfl, rfl, by kernel_rfl⟩
instance : TFld Tryz.prog 121 3 6 := ⟨_, _, 1, Tryz.underlying121, rfl, rfl, by kernel_rfl⟩
instance : TFld Tryz.prog 121 4 8 := ⟨_, _, 1, Tryz.underlying121, rfl, rfl, by kernel_rfl⟩
instance : TFld Tryz.prog 121 5 10 := ⟨_, _, 1, Tryz.underlying121, rfl, rfl, by kernel_rfl⟩
instance : TEq Tryz.prog 121 [0, 0, 0, 0, 0, 0, 0, 0, 0, 0, 0, 0] := ⟨by kernel_rfl, by kernel_rfl, _, Tryz.underlying121⟩
instance : TEl Tryz.prog 121 12 96 (.agg #[.int .i64 0, .int .i64 0, .int .i64 0, .int .i64 0, .int .i64 0, .int .i64 0, .int .i64 0, .int .i64 0, .int .i64 0, .int .i64 0, .int .i64 0, .int .i64 0]) := ⟨by kernel_rfl, rfl, by decide⟩
instance : TZero Tryz.prog 121 [.int .i64 0, .int .i64 0, .int .i64 0, .int .i64 0, .int .i64 0, .int .i64 0, .int .i64 0, .int .i64 0, .int .i64 0, .int .i64 0, .int .i64 0, .int .i64 0] := ⟨.agg #[.int .i64 0, .int .i64 0, .int .i64 0, .int .i64 0, .int .i64 0, .int .i64 0, .int .i64 0, .int .i64 0, .int .i64 0, .int .i64 0, .int .i64 0, .int .i64 0], by kernel_rfl, rfl⟩
instance : TRow Tryz.prog 122 4 := ⟨⟨_, Tryz.underlying122, rfl⟩, by kernel_rfl⟩
instance : TFld Tryz.prog 122 0 0 := ⟨_, _, 0, Tryz.underlying122, rfl, rfl, by kernel_rfl⟩
instance : TFld Tryz.prog 122 1 1 := ⟨_, _, 0, Tryz.underlying122, rfl, rfl, by kernel_rfl⟩
instance : TFld Tryz.prog 122 2 2 := ⟨_, _, 0, Tryz.underlying122, rfl, rfl, by kernel_rfl⟩
instance : TFld Tryz.prog 122 3 3 := ⟨_, _, 0, Tryz.underlying122, rfl, rfl, by kernel_rfl⟩
instance : TEq Tryz.prog 122 [0, 0, 0, 0] := ⟨by kernel_rfl, by kernel_rfl, _, Tryz.underlying122⟩
instance : TEl Tryz.prog 122 4 32 (.agg #[.int .i64 0, .int .i64 0, .int .i64 0, .int .i64 0]) := ⟨by kernel_rfl, rfl, by decide⟩
instance : TZero Tryz.prog 122 [.int .i64 0, .int .i64 0, .int .i64 0, .int .i64 0] := ⟨.agg #[.int .i64 0, .int .i64 0, .int .i64 0, .int .i64 0], by kernel_rfl, rfl⟩
instance : TRow Tryz.prog 123 60 := ⟨⟨_, Tryz.underlying123, rfl⟩, by kernel_rfl⟩
instance : TFld Tryz.prog 123 0 0 := ⟨_, _, 0, Tryz.underlying123, rfl, rfl, by kernel_rfl⟩
instance : TFld Tryz.prog 123 1 1 := ⟨_, _, 0, Tryz.underlying123, rfl, rfl, by kernel_rfl⟩
instance : TFld Tryz.prog 123 2 2 := ⟨_, _, 0, Tryz.underlying123, rfl, rfl, by kernel_rfl⟩
instance : TFld Tryz.prog 123 3 3 := ⟨_, _, 0, Tryz.underlying123, rfl, rfl, by kernel_rfl⟩
instance : TFld Tryz.prog 123 4 4 := ⟨_, _, 0, Tryz.underlying123, rfl, rfl, by kernel_rfl⟩
instance : TFld Tryz.prog 123 5 5 := ⟨_, _, 0, Tryz.underlying123, rfl, rfl, by kernel_rfl⟩
instance : TFld Tryz.prog 123 6 6 := ⟨_, _, 0, Tryz.underlying123, rfl, rfl, by kernel_rfl⟩
instance : TFld Tryz.prog 123 7 7 := ⟨_, _, 0, Tryz.underlying123, rfl, rfl, by kernel_rfl⟩
instance : TFld Tryz.prog 123 8 8 := ⟨_, _, 0, Tryz.underlying123, rfl, rfl, by kernel_rfl⟩
instance : TFld Tryz.prog 123 9 9 := ⟨_, _, 0, Tryz.underlying123, rfl, rfl, by kernel_rfl⟩
instance : TFld Tryz.prog 123 10 10 := ⟨_, _, 0, Tryz.underlying123, rfl, rfl, by kernel_rfl⟩
instance : TFld Tryz.prog 123 11 11 := ⟨_, _, 1, Tryz.underlying123, rfl, rfl, by kernel_rfl⟩
instance : TFld Tryz.prog 123 12 13 := ⟨_, _, 1, Tryz.underlying123, rfl, rfl, by kernel_rfl⟩
instance : TFld Tryz.prog 123 13 15 := ⟨_, _, 1, Tryz.underlying123, rfl, rfl, by kernel_rfl⟩
instance : TFld Tryz.prog 123 14 17 := ⟨_, _, 1, Tryz.underlying123, rfl, rfl, by kernel_rfl⟩
instance : TFld Tryz.prog 123 15 19 := ⟨_, _, 1, Tryz.underlying123, rfl, rfl, by kernel_rfl⟩
instance : TFld Tryz.prog 123 16 21 := ⟨_, _, 1, Tryz.underlying123, rfl, rfl, by kernel_rfl⟩
instance : TFld Tryz.prog 123 17 23 := ⟨_, _, 1, Tryz.underlying123, rfl, rfl, by kernel_rfl⟩
instance : TFld Tryz.prog 123 18 25 := ⟨_, _, 0, Tryz.underlying123, rfl, rfl, by kernel_rfl⟩
instance : TFld Tryz.prog 123 19 26 := ⟨_, _, 11, Tryz.underlying123, rfl, rfl, by kernel_rfl⟩
instance : TFld Tryz.prog 123 20 38 := ⟨_, _, 11, Tryz.underlying123, rfl, rfl, by kernel_rfl⟩
instance : TFld Tryz.prog 123 21 50 := ⟨_, _, 3, Tryz.underlying123, rfl, rfl, by kernel_rfl⟩
instance : TFld Tryz.prog 123 22 54 := ⟨_, _, 3, Tryz.underlying123, rfl, rfl, by kernel_rfl⟩
instance : TFld Tryz.prog 123 23 58 := ⟨_, _, 0, Tryz.underlying123, rfl, rfl, by kernel_rfl⟩
instance : TFld Tryz.prog 123 24 59 := ⟨_, _, 0, Tryz.underlying123, rfl, rfl, by kernel_rfl⟩
instance : TEq Tryz.prog 123 [0, 0, 0, 0, 0, 0, 1, 1, 0, 0, 0, 0, 0, 0, 0, 0, 0, 0, 0, 0, 0, 0, 0, 0, 0, 0, 0, 0, 0, 0, 0, 0, 0, 0, 0, 0, 0, 0, 0, 0, 0, 0, 0, 0, 0, 0, 0, 0, 0, 0, 0, 0, 0, 0, 0, 0, 0, 0, 0, 0] := ⟨by kernel_rfl, by kernel_rfl, _, Tryz.underlying123⟩
instance : TEl Tryz.prog 123 60 472 (.agg #[.int .i64 0, .int .i64 0, .int .i64 0, .int .i64 0, .int .i64 0, .int .i64 0, .bool false, .bool false, .int .i64 0, .int .i64 0, .int .i64 0, .int .i64 0, .int .i64 0, .int .i64 0, .int .i64 0, .int .i64 0, .int .i64 0, .int .i64 0, .int .i64 0, .int .i64 0, .int .i64 0, .int .i64 0, .int .i64 0, .int .i64 0, .int .i64 0, .int .i64 0, .int .i64 0, .int .i64 0, .int .i64 0, .int .i64 0, .int .i64 0, .int .i64 0, .int .i64 0, .int .i64 0, .int .i64 0, .int .i64 0, .int .i64 0, .int .i64 0, .int .i64 0, .int .i64 0, .int .i64 0, .int .i64 0, .int .i64 0, .int .i64 0, .int .i64 0, .int .i64 0, .int .i64 0, .int .i64 0, .int .i64 0, .int .i64 0, .int .i64 0, .int .i64 0, .int .i64 0, .int .i64 0, .int .i64 0, .int .i64 0, .int .i64 0, .int .i64 0, .int .i64 0, .int .i64 0]) := ⟨by kernel_rfl, rfl, by decide⟩
instance : TZero Tryz.prog 123 [.int .i64 0, .int .i64 0, .int .i64 0, .int .i64 0, .int .i64 0, .int .i64 0, .bool false, .bool false, .int .i64 0, .int .i64 0, .int .i64 0, .int .i64 0, .int .i64 0, .int .i64 0, .int .i64 0, .int .i64 0, .int .i64 0, .int .i64 0, .int .i64 0, .int .i64 0, .int .i64 0, .int .i64 0, .int .i64 0, .int .i64 0, .int .i64 0, .int .i64 0, .int .i64 0, .int .i64 0, .int .i64 0, .int .i64 0, .int .i64 0, .int .i64 0, .int .i64 0, .int .i64 0, .int .i64 0, .int .i64 0, .int .i64 0, .int .i64 0, .int .i64 0, .int .i64 0, .int .i64 0, .int .i64 0, .int .i64 0, .int .i64 0, .int .i64 0, .int .i64 0, .int .i64 0, .int .i64 0, .int .i64 0, .int .i64 0, .int .i64 0, .int .i64 0, .int .i64 0, .int .i64 0, .int .i64 0, .int .i64 0, .int .i64 0, .int .i64 0, .int .i64 0, .int .i64 0] := ⟨.agg #[.int .i64 0, .int .i64 0, .int .i64 0, .int .i64 0, .int .i64 0, .int .i64 0, .bool false, .bool false, .int .i64 0, .int .i64 0, .int .i64 0, .int .i64 0, .int .i64 0, .int .i64 0, .int .i64 0, .int .i64 0, .int .i64 0, .int .i64 0, .int .i64 0, .int .i64 0, .int .i64 0, .int .i64 0, .int .i64 0, .int .i64 0, .int .i64 0, .int .i64 0, .int .i64 0, .int .i64 0, .int .i64 0, .int .i64 0, .int .i64 0, .int .i64 0, .int .i64 0, .int .i64 0, .int .i64 0, .int .i64 0, .int .i64 0, .int .i64 0, .int .i64 0, .int .i64 0, .int .i64 0, .int .i64 0, .int .i64 0, .int .i64 0, .int .i64 0, .int .i64 0, .int .i64 0, .int .i64 0, .int .i64 0, .int .i64 0, .int .i64 0, .int .i64 0, .int .i64 0, .int .i64 0, .int .i64 0, .int .i64 0, .int .i64 0, .int .i64 0, .int .i64 0, .int .i64 0], by kernel_rfl, rfl⟩
instance : TRow Tryz.prog 124 60 := ⟨⟨_, Tryz.underlying124, rfl⟩, by kernel_rfl⟩
instance : TFld Tryz.prog 124 0 0 := ⟨_, _, 0, Tryz.underlying124, rfl, rfl, by kernel_rfl⟩
instance : TFld Tryz.prog 124 1 1 := ⟨_, _, 0, Tryz.underlying124, rfl, rfl, by kernel_rfl⟩
instance : TFld Tryz.prog 124 2 2 := ⟨_, _, 0, Tryz.underlying124, rfl, rfl, by kernel_rfl⟩
instance : TFld Tryz.prog 124 3 3 := ⟨_, _, 0, Tryz.underlying124, rfl, rfl, by kernel_rfl⟩
instance : TFld Tryz.prog 124 4 4 := ⟨_, _, 0, Tryz.underlying124, rfl, rfl, by kernel_rfl⟩
instance : TFld Tryz.prog 124 5 5 := ⟨_, _, 0, Tryz.underlying124, rfl, rfl, by kernel_rfl⟩
instance : TFld Tryz.prog 124 6 6 := ⟨_, _, 0, Tryz.underlying124, rfl, rfl, by kernel_rfl⟩
instance : TFld Tryz.prog 124 7 7 := ⟨_, _, 0, Tryz.underlying124, rfl, rfl, by kernel_rfl⟩
instance : TFld Tryz.prog 124 8 8 := ⟨_, _, 0, Tryz.underlying124, rfl, rfl, by kernel_rfl⟩
instance : TFld Tryz.prog 124 9 9 := ⟨_, _, 0, Tryz.underlying124, rfl, rfl, by kernel_rfl⟩
instance : TFld Tryz.prog 124 10 10 := ⟨_, _, 0, Tryz.underlying124, rfl, rfl, by kernel_rfl⟩
instance : TFld Tryz.prog 124 11 11 := ⟨_, _, 1, Tryz.underlying124, rfl, rfl, by kernel_rfl⟩
instance : TFld Tryz.prog 124 12 13 := ⟨_, _, 1, Tryz.underlying124, rfl, rfl, by kernel_rfl⟩
instance : TFld Tryz.prog 124 13 15 := ⟨_, _, 1, Tryz.underlying124, rfl, rfl, by kernel_rfl⟩
instance : TFld Tryz.prog 124 14 17 := ⟨_, _, 1, Tryz.underlying124, rfl, rfl, by kernel_rfl⟩
instance : TFld Tryz.prog 124 15 19 := ⟨_, _, 1, Tryz.underlying124, rfl, rfl, by kernel_rfl⟩
instance : TFld Tryz.prog 124 16 21 := ⟨_, _, 1, Tryz.underlying124, rfl, rfl, by kernel_rfl⟩
instance : TFld Tryz.prog 124 17 23 := ⟨_, _, 1, Tryz.underlying124, rfl, rfl, by kernel_rfl⟩
instance : TFld Tryz.prog 124 18 25 := ⟨_, _, 0, Tryz.underlying124, rfl, rfl, by kernel_rfl⟩
instance : TFld Tryz.prog 124 19 26 := ⟨_, _, 11, Tryz.underlying124, rfl, rfl, by kernel_rfl⟩
instance : TFld Tryz.prog 124 20 38 := ⟨_, _, 11, Tryz.underlying124, rfl, rfl, by kernel_rfl⟩
instance : TFld Tryz.prog 124 21 50 := ⟨_, _, 3, Tryz.underlying124, rfl, rfl, by kernel_rfl⟩
instance : TFld Tryz.prog 124 22 54 := ⟨_, _, 3, Tryz.underlying124, rfl, rfl, by kernel_rfl⟩
instance : TFld Tryz.prog 124 23 58 := ⟨_, _, 0, Tryz.underlying124, rfl, rfl, by kernel_rfl⟩
instance : TFld Tryz.prog 124 24 59 := ⟨_, _, 0, Tryz.underlying124, rfl, rfl, by kernel_rfl⟩
instance : TEq Tryz.prog 124 [0, 0, 0, 0, 0, 0, 1, 1, 0, 0, 0, 0, 0, 0, 0, 0, 0, 0, 0, 0, 0, 0, 0, 0, 0, 0, 0, 0, 0, 0, 0, 0, 0, 0, 0, 0, 0, 0, 0, 0, 0, 0, 0, 0, 0, 0, 0, 0, 0, 0, 0, 0, 0, 0, 0, 0, 0, 0, 0, 0] := ⟨by kernel_rfl, by kernel_rfl, _, Tryz.underlying124⟩
instance : TEl Tryz.prog 124 60 472 (.agg #[.int .i64 0, .int .i64 0, .int .i64 0, .int .i64 0, .int .i64 0, .int .i64 0, .bool false, .bool false, .int .i64 0, .int .i64 0, .int .i64 0, .int .i64 0, .int .i64 0, .int .i64 0, .int .i64 0, .int .i64 0, .int .i64 0, .int .i64 0, .int .i64 0, .int .i64 0, .int .i64 0, .int .i64 0, .int .i64 0, .int .i64 0, .int .i64 0, .int .i64 0, .int .i64 0, .int .i64 0, .int .i64 0, .int .i64 0, .int .i64 0, .int .i64 0, .int .i64 0, .int .i64 0, .int .i64 0, .int .i64 0, .int .i64 0, .int .i64 0, .int .i64 0, .int .i64 0, .int .i64 0, .int .i64 0, .int .i64 0, .int .i64 0, .int .i64 0, .int .i64 0, .int .i64 0, .int .i64 0, .int .i64 0, .int .i64 0, .int .i64 0, .int .i64 0, .int .i64 0, .int .i64 0, .int .i64 0, .int .i64 0, .int .i64 0, .int .i64 0, .int .i64 0, .int .i64 0]) := ⟨by kernel_rfl, rfl, by decide⟩
instance : TZero Tryz.prog 124 [.int .i64 0, .int .i64 0, .int .i64 0, .int .i64 0, .int .i64 0, .int .i64 0, .bool false, .bool false, .int .i64 0, .int .i64 0, .int .i64 0, .int .i64 0, .int .i64 0, .int .i64 0, .int .i64 0, .int .i64 0, .int .i64 0, .int .i64 0, .int .i64 0, .int .i64 0, .int .i64 0, .int .i64 0, .int .i64 0, .int .i64 0, .int .i64 0, .int .i64 0, .int .i64 0, .int .i64 0, .int .i64 0, .int .i64 0, .int .i64 0, .int .i64 0, .int .i64 0, .int .i64 0, .int .i64 0, .int .i64 0, .int .i64 0, .int .i64 0, .int .i64 0, .int .i64 0, .int .i64 0, .int .i64 0, .int .i64 0, .int .i64 0, .int .i64 0, .int .i64 0, .int .i64 0, .int .i64 0, .int .i64 0, .int .i64 0, .int .i64 0, .int .i64 0, .int .i64 0, .int .i64 0, .int .i64 0, .int .i64 0, .int .i64 0, .int .i64 0, .int .i64 0, .int .i64 0] := ⟨.agg #[.int .i64 0, .int .i64 0, .int .i64 0, .int .i64 0, .int .i64 0, .int .i64 0, .bool false, .bool false, .int .i64 0, .int .i64 0, .int .i64 0, .int .i64 0, .int .i64 0, .int .i64 0, .int .i64 0, .int .i64 0, .int .i64 0, .int .i64 0, .int .i64 0, .int .i64 0, .int .i64 0, .int .i64 0, .int .i64 0, .int .i64 0, .int .i64 0, .int .i64 0, .int .i64 0, .int .i64 0, .int .i64 0, .int .i64 0, .int .i64 0, .int .i64 0, .int .i64 0, .int .i64 0, .int .i64 0, .int .i64 0, .int .i64 0, .int .i64 0, .int .i64 0, .int .i64 0, .int .i64 0, .int .i64 0, .int .i64 0, .int .i64 0, .int .i64 0, .int .i64 0, .int .i64 0, .int .i64 0, .int .i64 0, .int .i64 0, .int .i64 0, .int .i64 0, .int .i64 0, .int .i64 0, .int .i64 0, .int .i64 0, .int .i64 0, .int .i64 0, .int .i64 0, .int .i64 0], by kernel_rfl, rfl⟩
instance : TOne Tryz.prog 125 := ⟨⟨_, Tryz.underlying125, rfl⟩, by kernel_rfl⟩
instance : TSl Tryz.prog 125 210 3 := ⟨Tryz.underlying125, by kernel_rfl⟩
instance : TEl Tryz.prog 125 1 24 (.slice none 0 0) := ⟨by kernel_rfl, rfl, by decide⟩
instance : TZero Tryz.prog 125 [.slice none 0 0] := ⟨.slice none 0 0, by kernel_rfl, rfl⟩
instance : TRow Tryz.prog 126 1 := ⟨⟨_, Tryz.underlying126, rfl⟩, by kernel_rfl⟩
instance : TFld Tryz.prog 126 0 0 := ⟨_, _, 0, Tryz.underlying126, rfl, rfl, by kernel_rfl⟩
instance : TEl Tryz.prog 126 1 24 (.agg #[.slice none 0 0]) := ⟨by kernel_rfl, rfl, by decide⟩
instance : TZero Tryz.prog 126 [.slice none 0 0] := ⟨.agg #[.slice none 0 0], by kernel_rfl, rfl⟩
instance : TRow Tryz.prog 127 1 := ⟨⟨_, Tryz.underlying127, rfl⟩, by kernel_rfl⟩
instance : TFld Tryz.prog 127 0 0 := ⟨_, _, 0, Tryz.underlying127, rfl, rfl, by kernel_rfl⟩
instance : TEl Tryz.prog 127 1 24 (.agg #[.slice none 0 0]) := ⟨by kernel_rfl, rfl, by decide⟩
instance : TZero Tryz.prog 127 [.slice none 0 0] := ⟨.agg #[.slice none 0 0], by kernel_rfl, rfl⟩
instance : TRow Tryz.prog 128 64 := ⟨⟨_, Tryz.underlying128, rfl⟩, by kernel_rfl⟩
instance : TFld Tryz.prog 128 0 0 := ⟨_, _, 0, Tryz.underlying128, rfl, rfl, by kernel_rfl⟩
instance : TFld Tryz.prog 128 1 1 := ⟨_, _, 0, Tryz.underlying128, rfl, rfl, by kernel_rfl⟩
instance : TFld Tryz.prog 128 2 2 := ⟨_, _, 59, Tryz.underlying128, rfl, rfl, by kernel_rfl⟩
instance : TFld Tryz.prog 128 3 62 := ⟨_, _, 0, Tryz.underlying128, rfl, rfl, by kernel_rfl⟩
instance : TFld Tryz.prog 128 4 63 := ⟨_, _, 0, Tryz.underlying128, rfl, rfl, by kernel_rfl⟩
instance : TEl Tryz.prog 128 64 536 (.agg #[.int .i64 0, .slice none 0 0, .int .i64 0, .int .i64 0, .int .i64 0, .int .i64 0, .int .i64 0, .int .i64 0, .bool false, .bool false, .int .i64 0, .int .i64 0, .int .i64 0, .int .i64 0, .int .i64 0, .int .i64 0, .int .i64 0, .int .i64 0, .int .i64 0, .int .i64 0, .int .i64 0, .int .i64 0, .int .i64 0, .int .i64 0, .int .i64 0, .int .i64 0, .int .i64 0, .int .i64 0, .int .i64 0, .int .i64 0, .int .i64 0, .int .i64 0, .int .i64 0, .int .i64 0, .int .i64 0, .int .i64 0, .int .i64 0, .int .i64 0, .int .i64 0, .int .i64 0, .int .i64 0, .int .i64 0, .int .i64 0, .int .i64 0, .int .i64 0, .int .i64 0, .int .i64 0, .int .i64 0, .int .i64 0, .int .i64 0, .int .i64 0, .int .i64 0, .int .i64 0, .int .i64 0, .int .i64 0, .int .i64 0, .int .i64 0, .int .i64 0, .int .i64 0, .int .i64 0, .int .i64 0, .int .i64 0, .bool false, .slice none 0 0]) := ⟨by kernel_rfl, rfl, by decide⟩
instance : TZero Tryz.prog 128 [.int .i64 0, .slice none 0 0, .int .i64 0, .int .i64 0, .int .i64 0, .int .i64 0, .int .i64 0, .int .i64 0, .bool false, .bool false, .int .i64 0, .int .i64 0, .int .i64 0, .int .i64 0, .int .i64 0, .int .i64 0, .int .i64 0, .int .i64 0, .int .i64 0, .int .i64 0, .int .i64 0, .int .i64 0, .int .i64 0, .int .i64 0, .int .i64 0, .int .i64 0, .int .i64 0, .int .i64 0, .int .i64 0, .int .i64 0, .int .i64 0, .int .i64 0, .int .i64 0, .int .i64 0, .int .i64 0, .int .i64 0, .int .i64 0, .int .i64 0, .int .i64 0, .int .i64 0, .int .i64 0, .int .i64 0, .int .i64 0, .int .i64 0, .int .i64 0, .int .i64 0, .int .i64 0, .int .i64 0, .int .i64 0, .int .i64 0, .int .i64 0, .int .i64 0, .int .i64 0, .int .i64 0, .int .i64 0, .int .i64 0, .int .i64 0, .int .i64 0, .int .i64 0, .int .i64 0, .int .i64 0, .int .i64 0, .bool false, .slice none 0 0] := ⟨.agg #[.int .i64 0, .slice none 0 0, .int .i64 0, .int .i64 0, .int .i64 0, .int .i64 0, .int .i64 0, .int .i64 0, .bool false, .bool false, .int .i64 0, .int .i64 0, .int .i64 0, .int .i64 0, .int .i64 0, .int .i64 0, .int .i64 0, .int .i64 0, .int .i64 0, .int .i64 0, .int .i64 0, .int .i64 0, .int .i64 0, .int .i64 0, .int .i64 0, .int .i64 0, .int .i64 0, .int .i64 0, .int .i64 0, .int .i64 0, .int .i64 0, .int .i64 0, .int .i64 0, .int .i64 0, .int .i64 0, .int .i64 0, .int .i64 0, .int .i64 0, .int .i64 0, .int .i64 0, .int .i64 0, .int .i64 0, .int .i64 0, .int .i64 0, .int .i64 0, .int .i64 0, .int .i64 0, .int .i64 0, .int .i64 0, .int .i64 0, .int .i64 0, .int .i64 0, .int .i64 0, .int .i64 0, .int .i64 0, .int .i64 0, .int .i64 0, .int .i64 0, .int .i64 0, .int .i64 0, .int .i64 0, .int .i64 0, .bool false, .slice none 0 0], by kernel_rfl, rfl⟩
instance : TRow Tryz.prog 129 64 := ⟨⟨_, Tryz.underlying129, rfl⟩, by kernel_rfl⟩
instance : TFld Tryz.prog 129 0 0 := ⟨_, _, 0, Tryz.underlying129, rfl, rfl, by kernel_rfl⟩
instance : TFld Tryz.prog 129 1 1 := ⟨_, _, 0, Tryz.underlying129, rfl, rfl, by kernel_rfl⟩
instance : TFld Tryz.prog 129 2 2 := ⟨_, _, 59, Tryz.underlying129, rfl, rfl, by kernel_rfl⟩
instance : TFld Tryz.prog 129 3 62 := ⟨_, _, 0, Tryz.underlying129, rfl, rfl, by kernel_rfl⟩
instance : TFld Tryz.prog 129 4 63 := ⟨_, _, 0, Tryz.underlying129, rfl, rfl, by kernel_rfl⟩
instance : TEl Tryz.prog 129 64 536 (.agg #[.int .i64 0, .slice none 0 0, .int .i64 0, .int .i64 0, .int .i64 0, .int .i64 0, .int .i64 0, .int .i64 0, .bool false, .bool false, .int .i64 0, .int .i64 0, .int .i64 0, .int .i64 0, .int .i64 0, .int .i64 0, .int .i64 0, .int .i64 0, .int .i64 0, .int .i64 0, .int .i64 0, .int .i64 0, .int .i64 0, .int .i64 0, .int .i64 0, .int .i64 0, .int .i64 0, .int .i64 0, .int .i64 0, .int .i64 0, .int .i64 0, .int .i64 0, .int .i64 0, .int .i64 0, .int .i64 0, .int .i64 0, .int .i64 0, .int .i64 0, .int .i64 0, .int .i64 0, .int .i64 0, .int .i64 0, .int .i64 0, .int .i64 0, .int .i64 0, .int .i64 0, .int .i64 0, .int .i64 0, .int .i64 0, .int .i64 0, .int .i64 0, .int .i64 0, .int .i64 0, .int .i64 0, .int .i64 0, .int .i64 0, .int .i64 0, .int .i64 0, .int .i64 0, .int .i64 0, .int .i64 0, .int .i64 0, .bool false, .slice none 0 0]) := ⟨by kernel_rfl, rfl, by decide⟩
instance : TZero Tryz.prog 129 [.int .i64 0, .slice none 0 0, .int .i64 0, .int .i64 0, .int .i64 0, .int .i64 0, .int .i64 0, .int .i64 0, .bool false, .bool false, .int .i64 0, .int .i64 0, .int .i64 0, .int .i64 0, .int .i64 0, .int .i64 0, .int .i64 0, .int .i64 0, .int .i64 0, .int .i64 0, .int .i64 0, .int .i64 0, .int .i64 0, .int .i64 0, .int .i64 0, .int .i64 0, .int .i64 0, .int .i64 0, .int .i64 0, .int .i64 0, .int .i64 0, .int .i64 0, .int .i64 0, .int .i64 0, .int .i64 0, .int .i64 0, .int .i64 0, .int .i64 0, .int .i64 0, .int .i64 0, .int .i64 0, .int .i64 0, .int .i64 0, .int .i64 0, .int .i64 0, .int .i64 0, .int .i64 0, .int .i64 0, .int .i64 0, .int .i64 0, .int .i64 0, .int .i64 0, .int .i64 0, .int .i64 0, .int .i64 0, .int .i64 0, .int .i64 0, .int .i64 0, .int .i64 0, .int .i64 0, .int .i64 0, .int .i64 0, .bool false, .slice none 0 0] := ⟨.agg #[.int .i64 0, .slice none 0 0, .int .i64 0, .int .i64 0, .int .i64 0, .int .i64 0, .int .i64 0, .int .i64 0, .bool false, .bool false, .int .i64 0, .int .i64 0, .int .i64 0, .int .i64 0, .int .i64 0, .int .i64 0, .int .i64 0, .int .i64 0, .int .i64 0, .int .i64 0, .int .i64 0, .int .i64 0, .int .i64 0, .int .i64 0, .int .i64 0, .int .i64 0, .int .i64 0, .int .i64 0, .int .i64 0, .int .i64 0, .int .i64 0, .int .i64 0, .int .i64 0, .int .i64 0, .int .i64 0, .int .i64 0, .int .i64 0, .int .i64 0, .int .i64 0, .int .i64 0, .int .i64 0, .int .i64 0, .int .i64 0, .int .i64 0, .int .i64 0, .int .i64 0, .int .i64 0, .int .i64 0, .int .i64 0, .int .i64 0, .int .i64 0, .int .i64 0, .int .i64 0, .int .i64 0, .int .i64 0, .int .i64 0, .int .i64 0, .int .i64 0, .int .i64 0, .int .i64 0, .int .i64 0, .int .i64 0, .bool false, .slice none 0 0], by kernel_rfl, rfl⟩
instance : TRow Tryz.prog 131 2 := ⟨⟨_, Tryz.underlying131, rfl⟩, by kernel_rfl⟩
instance : TFld Tryz.prog 131 0 0 := ⟨_, _, 0, Tryz.underlying131, rfl, rfl, by kernel_rfl⟩
instance : TFld Tryz.prog 131 1 1 := ⟨_, _, 0, Tryz.underlying131, rfl, rfl, by kernel_rfl⟩
instance : TEq Tryz.prog 131 [0, 0] := ⟨by kernel_rfl, by kernel_rfl, _, Tryz.underlying131⟩
instance : TEl Tryz.prog 131 2 16 (.agg #[.int .i64 0, .int .i64 0]) := ⟨by kernel_rfl, rfl, by decide⟩
instance : TZero Tryz.prog 131 [.int .i64 0, .int .i64 0] := ⟨.agg #[.int .i64 0, .int .i64 0], by kernel_rfl, rfl⟩
instance : TRow Tryz.prog 132 4 := ⟨⟨_, Tryz.underlying132, rfl⟩, by kernel_rfl⟩
instance : TFld Tryz.prog 132 0 0 := ⟨_, _, 0, Tryz.underlying132, rfl, rfl, by kernel_rfl⟩
instance : TFld Tryz.prog 132 1 1 := ⟨_, _, 0, Tryz.underlying132, rfl, rfl, by kernel_rfl⟩
instance : TFld Tryz.prog 132 2 2 := ⟨_, _, 0, Tryz.underlying132, rfl, rfl, by kernel_rfl⟩
instance : TFld Tryz.prog 132 3 3 := ⟨_, _, 0, Tryz.underlying132, rfl, rfl, by kernel_rfl⟩
instance : TEl Tryz.prog 132 4 48 (.agg #[.int .i64 0, .int .i64 0, .int .i64 0, .slice none 0 0]) := ⟨by kernel_rfl, rfl, by decide⟩
instance : TZero Tryz.prog 132 [.int .i64 0, .int .i64 0, .int .i64 0, .slice none 0 0] := ⟨.agg #[.int .i64 0, .int .i64 0, .int .i64 0, .slice none 0 0], by kernel_rfl, rfl⟩
instance : TRow Tryz.prog 133 4 := ⟨⟨_, Tryz.underlying133, rfl⟩, by kernel_rfl⟩
instance : TFld Tryz.prog 133 0 0 := ⟨_, _, 0, Tryz.underlying133, rfl, rfl, by kernel_rfl⟩
instance : TFld Tryz.prog 133 1 1 := ⟨_, _, 0, Tryz.underlying133, rfl, rfl, by kernel_rfl⟩
instance : TFld Tryz.prog 133 2 2 := ⟨_, _, 0, Tryz.underlying133, rfl, rfl, by kernel_rfl⟩
instance : TFld Tryz.prog 133 3 3 := ⟨_, _, 0, Tryz.underlying133, rfl, rfl, by kernel_rfl⟩
instance : TEl Tryz.prog 133 4 48 (.agg #[.int .i64 0, .int .i64 0, .int .i64 0, .slice none 0 0]) := ⟨by kernel_rfl, rfl, by decide⟩
instance : TZero Tryz.prog 133 [.int .i64 0, .int .i64 0, .int .i64 0, .slice none 0 0] := ⟨.agg #[.int .i64 0, .int .i64 0, .int .i64 0, .slice none 0 0], by kernel_rfl, rfl⟩
instance : TRow Tryz.prog 134 10 := ⟨⟨_, Tryz.underlying134, rfl⟩, by kernel_rfl⟩
instance : TFld Tryz.prog 134 0 0 := ⟨_, _, 0, Tryz.underlying134, rfl, rfl, by kernel_rfl⟩
instance : TFld Tryz.prog 134 1 1 := ⟨_, _, 1, Tryz.underlying134, rfl, rfl, by kernel_rfl⟩
instance : TFld Tryz.prog 134 2 3 := ⟨_, _, 1, Tryz.underlying134, rfl, rfl, by kernel_rfl⟩
instance : TFld Tryz.prog 134 3 5 := ⟨_, _, 0, Tryz.underlying134, rfl, rfl, by kernel_rfl⟩
instance : TFld Tryz.prog 134 4 6 := ⟨_, _, 3, Tryz.underlying134, rfl, rfl, by kernel_rfl⟩
instance : TEl Tryz.prog 134 10 96 (.agg #[.int .i64 0, .int .i64 0, .int .i64 0, .int .i64 0, .int .i64 0, .bool false, .int .i64 0, .int .i64 0, .int .i64 0, .slice none 0 0]) := ⟨by kernel_rfl, rfl, by decide⟩
instance : TZero Tryz.prog 134 [.int .i64 0, .int .i64 0, .int .i64 0, .int .i64 0, .int .i64 0, .bool false, .int .i64 0, .int .i64 0, .int .i64 0, .slice none 0 0] := ⟨.agg #[.int .i64 0, .int .i64 0, .int .i64 0, .int .i64 0, .int .i64 0, .bool false, .int .i64 0, .int .i64 0, .int .i64 0, .slice none 0 0], by kernel_rfl, rfl⟩
instance : TRow Tryz.prog 135 10 := ⟨⟨_, Tryz.underlying135, rfl⟩, by kernel_rfl⟩
instance : TFld Tryz.prog 135 0 0 := ⟨_, _, 0, Tryz.underlying135, rfl, rfl, by kernel_rfl⟩
instance : TFld Tryz.prog 135 1 1 := ⟨_, _, 1, Tryz.underlying135, rfl, rfl, by kernel_rfl⟩
instance : TFld Tryz.prog 135 2 3 := ⟨_, _, 1, Tryz.underlying135, rfl, rfl, by kernel_rfl⟩
instance : TFld Tryz.prog 135 3 5 := ⟨_, _, 0, Tryz.underlying135, rfl, rfl, by kernel_rfl⟩
instance : TFld Tryz.prog 135 4 6 := ⟨_, _, 3, Tryz.underlying135, rfl, rfl, by kernel_rfl⟩
instance : TEl Tryz.prog 135 10 96 (.agg #[.int .i64 0, .int .i64 0, .int .i64 0, .int .i64 0, .int .i64 0, .bool false, .int .i64 0, .int .i64 0, .int .i64 0, .slice none 0 0]) := ⟨by kernel_rfl, rfl, by decide⟩
instance : TZero Tryz.prog 135 [.int .i64 0, .int .i64 0, .int .i64 0, .int .i64 0, .int .i64 0, .bool false, .int .i64 0, .int .i64 0, .int .i64 0, .slice none 0 0] := ⟨.agg #[.int .i64 0, .int .i64 0, .int .i64 0, .int .i64 0, .int .i64 0, .bool false, .int .i64 0, .int .i64 0, .int .i64 0, .slice none 0 0], by kernel_rfl, rfl⟩
instance : TRow Tryz.prog 144 6 := ⟨⟨_, Tryz.underlying144, rfl⟩, by kernel_rfl⟩
instance : TFld Tryz.prog 144 0 0 := ⟨_, _, 0, Tryz.underlying144, rfl, rfl, by kernel_rfl⟩
instance : TFld Tryz.prog 144 1 1 := ⟨_, _, 1, Tryz.underlying144, rfl, rfl, by kernel_rfl⟩
instance : TFld Tryz.prog 144 2 3 := ⟨_, _, 1, Tryz.underlying144, rfl, rfl, by kernel_rfl⟩
instance : TFld Tryz.prog 144 3 5 := ⟨_, _, 0, Tryz.underlying144, rfl, rfl, by kernel_rfl⟩
instance : TEq Tryz.prog 144 [0, 0, 0, 0, 0, 1] := ⟨by kernel_rfl, by kernel_rfl, _, Tryz.underlying144⟩
instance : TEl Tryz.prog 144 6 48 (.agg #[.int .i64 0, .int .i64 0, .int .i64 0, .int .i64 0, .int .i64 0, .bool false]) := ⟨by kernel_rfl, rfl, by decide⟩
instance : TZero Tryz.prog 144 [.int .i64 0, .int .i64 0, .int .i64 0, .int .i64 0, .int .i64 0, .bool false] := ⟨.agg #[.int .i64 0, .int .i64 0, .int .i64 0, .int .i64 0, .int .i64 0, .bool false], by kernel_rfl, rfl⟩
instance : TRow Tryz.prog 145 6 := ⟨⟨_, Tryz.underlying145, rfl⟩, by kernel_rfl⟩
instance : TFld Tryz.prog 145 0 0 := ⟨_, _, 0, Tryz.underlying145, rfl, rfl, by kernel_rfl⟩
instance : TFld Tryz.prog 145 1 1 := ⟨_, _, 1, Tryz.underlying145, rfl, rfl, by kernel_rfl⟩
instance : TFld Tryz.prog 145 2 3 := ⟨_, _, 1, Tryz.underlying145, rfl, rfl, by kernel_rfl⟩
instance : TFld Tryz.prog 145 3 5 := ⟨_, _, 0, Tryz.underlying145, rfl, rfl, by kernel_rfl⟩
instance : TEq Tryz.prog 145 [0, 0, 0, 0, 0, 1] := ⟨by kernel_rfl, by kernel_rfl, _, Tryz.underlying145⟩
instance : TEl Tryz.prog 145 6 48 (.agg #[.int .i64 0, .int .i64 0, .int .i64 0, .int .i64 0, .int .i64 0, .bool false]) := ⟨by kernel_rfl, rfl, by decide⟩
instance : TZero Tryz.prog 145 [.int .i64 0, .int .i64 0, .int .i64 0, .int .i64 0, .int .i64 0, .bool false] := ⟨.agg #[.int .i64 0, .int .i64 0, .int .i64 0, .int .i64 0, .int .i64 0, .bool false], by kernel_rfl, rfl⟩
instance : TRow Tryz.prog 147 6 := ⟨⟨_, Tryz.underlying147, rfl⟩, by kernel_rfl⟩
instance : TFld Tryz.prog 147 0 0 := ⟨_, _, 0, Tryz.underlying147, rfl, rfl, by kernel_rfl⟩
instance : TFld Tryz.prog 147 1 1 := ⟨_, _, 1, Tryz.underlying147, rfl, rfl, by kernel_rfl⟩
instance : TFld Tryz.prog 147 2 3 := ⟨_, _, 1, Tryz.underlying147, rfl, rfl, by kernel_rfl⟩
instance : TFld Tryz.prog 147 3 5 := ⟨_, _, 0, Tryz.underlying147, rfl, rfl, by kernel_rfl⟩
instance : TEq Tryz.prog 147 [0, 0, 0, 0, 0, 1] := ⟨by kernel_rfl, by kernel_rfl, _, Tryz.underlying147⟩
instance : TEl Tryz.prog 147 6 48 (.agg #[.int .i64 0, .int .i64 0, .int .i64 0, .int .i64 0, .int .i64 0, .bool false]) := ⟨by kernel_rfl, rfl, by decide⟩
instance : TZero Tryz.prog 147 [.int .i64 0, .int .i64 0, .int .i64 0, .int .i64 0, .int .i64 0, .bool false] := ⟨.agg #[.int .i64 0, .int .i64 0, .int .i64 0, .int .i64 0, .int .i64 0, .bool false], by kernel_rfl, rfl⟩
instance : TRow Tryz.prog 148 6 := ⟨⟨_, Tryz.underlying148, rfl⟩, by kernel_rfl⟩
instance : TFld Tryz.prog 148 0 0 := ⟨_, _, 0, Tryz.underlying148, rfl, rfl, by kernel_rfl⟩
instance : TFld Tryz.prog 148 1 1 := ⟨_, _, 1, Tryz.underlying148, rfl, rfl, by kernel_rfl⟩
instance : TFld Tryz.prog 148 2 3 := ⟨_, _, 1, Tryz.underlying148, rfl, rfl, by kernel_rfl⟩
instance : TFld Tryz.prog 148 3 5 := ⟨_, _, 0, Tryz.underlying148, rfl, rfl, by kernel_rfl⟩
instance : TEq Tryz.prog 148 [0, 0, 0, 0, 0, 1] := ⟨by kernel_rfl, by kernel_rfl, _, Tryz.underlying148⟩
instance : TEl Tryz.prog 148 6 48 (.agg #[.int .i64 0, .int .i64 0, .int .i64 0, .int .i64 0, .int .i64 0, .bool false]) := ⟨by kernel_rfl, rfl, by decide⟩
instance : TZero Tryz.prog 148 [.int .i64 0, .int .i64 0, .int .i64 0, .int .i64 0, .int .i64 0, .bool false] := ⟨.agg #[.int .i64 0, .int .i64 0, .int .i64 0, .int .i64 0, .int .i64 0, .bool false], by kernel_rfl, rfl⟩
instance : TOne Tryz.prog 149 := ⟨⟨_, Tryz.underlying149, rfl⟩, by kernel_rfl⟩
instance : TEl Tryz.prog 149 1 8 (.int .u64 0) := ⟨by kernel_rfl, rfl, by decide⟩
instance : TZero Tryz.prog 149 [.int .u64 0] := ⟨.int .u64 0, by kernel_rfl, rfl⟩
instance : TOne Tryz.prog 153 := ⟨⟨_, Tryz.underlying153, rfl⟩, by kernel_rfl⟩
instance : TPtr Tryz.prog 153 := ⟨⟨_, Tryz.underlying153⟩⟩
instance : TEl Tryz.prog 153 1 8 (.pointer none) := ⟨by kernel_rfl, rfl, by decide⟩
instance : TZero Tryz.prog 153 [.pointer none] := ⟨.pointer none, by kernel_rfl, rfl⟩
instance : TRow Tryz.prog 154 2 := ⟨⟨_, Tryz.underlying154, rfl⟩, by kernel_rfl⟩
instance : TFld Tryz.prog 154 0 0 := ⟨_, _, 0, Tryz.underlying154, rfl, rfl, by kernel_rfl⟩
instance : TFld Tryz.prog 154 1 1 := ⟨_, _, 0, Tryz.underlying154, rfl, rfl, by kernel_rfl⟩
instance : TEl Tryz.prog 154 2 32 (.agg #[.pointer none, .slice none 0 0]) := ⟨by kernel_rfl, rfl, by decide⟩
instance : TZero Tryz.prog 154 [.pointer none, .slice none 0 0] := ⟨.agg #[.pointer none, .slice none 0 0], by kernel_rfl, rfl⟩
instance : TRow Tryz.prog 155 2 := ⟨⟨_, Tryz.underlying155, rfl⟩, by kernel_rfl⟩
instance : TFld Tryz.prog 155 0 0 := ⟨_, _, 0, Tryz.underlying155, rfl, rfl, by kernel_rfl⟩
instance : TFld Tryz.prog 155 1 1 := ⟨_, _, 0, Tryz.underlying155, rfl, rfl, by kernel_rfl⟩
instance : TEl Tryz.prog 155 2 32 (.agg #[.pointer none, .slice none 0 0]) := ⟨by kernel_rfl, rfl, by decide⟩
instance : TZero Tryz.prog 155 [.pointer none, .slice none 0 0] := ⟨.agg #[.pointer none, .slice none 0 0], by kernel_rfl, rfl⟩
instance : TRow Tryz.prog 175 3 := ⟨⟨_, Tryz.underlying175, rfl⟩, by kernel_rfl⟩
instance : TFld Tryz.prog 175 0 0 := ⟨_, _, 0, Tryz.underlying175, rfl, rfl, by kernel_rfl⟩
instance : TFld Tryz.prog 175 1 1 := ⟨_, _, 0, Tryz.underlying175, rfl, rfl, by kernel_rfl⟩
instance : TFld Tryz.prog 175 2 2 := ⟨_, _, 0, Tryz.underlying175, rfl, rfl, by kernel_rfl⟩
instance : TEq Tryz.prog 175 [0, 0, 0] := ⟨by kernel_rfl, by kernel_rfl, _, Tryz.underlying175⟩
instance : TEl Tryz.prog 175 3 24 (.agg #[.int .i64 0, .int .i64 0, .int .i64 0]) := ⟨by kernel_rfl, rfl, by decide⟩
instance : TZero Tryz.prog 175 [.int .i64 0, .int .i64 0, .int .i64 0] := ⟨.agg #[.int .i64 0, .int .i64 0, .int .i64 0], by kernel_rfl, rfl⟩
instance : TRow Tryz.prog 176 3 := ⟨⟨_, Tryz.underlying176, rfl⟩, by kernel_rfl⟩
instance : TFld Tryz.prog 176 0 0 := ⟨_, _, 0, Tryz.underlying176, rfl, rfl, by kernel_rfl⟩
instance : TFld Tryz.prog 176 1 1 := ⟨_, _, 0, Tryz.underlying176, rfl, rfl, by kernel_rfl⟩
instance : TFld Tryz.prog 176 2 2 := ⟨_, _, 0, Tryz.underlying176, rfl, rfl, by kernel_rfl⟩
instance : TEq Tryz.prog 176 [0, 0, 0] := ⟨by kernel_rfl, by kernel_rfl, _, Tryz.underlying176⟩
instance : TEl Tryz.prog 176 3 24 (.agg #[.int .i64 0, .int .i64 0, .int .i64 0]) := ⟨by kernel_rfl, rfl, by decide⟩
instance : TZero Tryz.prog 176 [.int .i64 0, .int .i64 0, .int .i64 0] := ⟨.agg #[.int .i64 0, .int .i64 0, .int .i64 0], by kernel_rfl, rfl⟩
instance : TOne Tryz.prog 183 := ⟨⟨_, Tryz.underlying183, rfl⟩, by kernel_rfl⟩
instance : TSl Tryz.prog 183 74 2 := ⟨Tryz.underlying183, by kernel_rfl⟩
instance : TEl Tryz.prog 183 1 24 (.slice none 0 0) := ⟨by kernel_rfl, rfl, by decide⟩
instance : TZero Tryz.prog 183 [.slice none 0 0] := ⟨.slice none 0 0, by kernel_rfl, rfl⟩
instance : TOne Tryz.prog 184 := ⟨⟨_, Tryz.underlying184, rfl⟩, by kernel_rfl⟩
instance : TEl Tryz.prog 184 1 4 (.int .u32 0) := ⟨by kernel_rfl, rfl, by decide⟩
instance : TZero Tryz.prog 184 [.int .u32 0] := ⟨.int .u32 0, by kernel_rfl, rfl⟩
instance : TOne Tryz.prog 187 := ⟨⟨_, Tryz.underlying187, rfl⟩, by kernel_rfl⟩
instance : TEl Tryz.prog 187 1 8 (.int .u64 0) := ⟨by kernel_rfl, rfl, by decide⟩
instance : TZero Tryz.prog 187 [.int .u64 0] := ⟨.int .u64 0, by kernel_rfl, rfl⟩
instance : TOne Tryz.prog 190 := ⟨⟨_, Tryz.underlying190, rfl⟩, by kernel_rfl⟩
instance : TPtr Tryz.prog 190 := ⟨⟨_, Tryz.underlying190⟩⟩
instance : TEl Tryz.prog 190 1 8 (.pointer none) := ⟨by kernel_rfl, rfl, by decide⟩
instance : TZero Tryz.prog 190 [.pointer none] := ⟨.pointer none, by kernel_rfl, rfl⟩
instance : TRow Tryz.prog 210 3 := ⟨⟨_, Tryz.underlying210, rfl⟩, by kernel_rfl⟩
instance : TFld Tryz.prog 210 0 0 := ⟨_, _, 0, Tryz.underlying210, rfl, rfl, by kernel_rfl⟩
instance : TFld Tryz.prog 210 1 1 := ⟨_, _, 0, Tryz.underlying210, rfl, rfl, by kernel_rfl⟩
instance : TFld Tryz.prog 210 2 2 := ⟨_, _, 0, Tryz.underlying210, rfl, rfl, by kernel_rfl⟩
instance : TEq Tryz.prog 210 [0, 0, 0] := ⟨by kernel_rfl, by kernel_rfl, _, Tryz.underlying210⟩
instance : TEl Tryz.prog 210 3 24 (.agg #[.int .i64 0, .int .i64 0, .int .i64 0]) := ⟨by kernel_rfl, rfl, by decide⟩
instance : TZero Tryz.prog 210 [.int .i64 0, .int .i64 0, .int .i64 0] := ⟨.agg #[.int .i64 0, .int .i64 0, .int .i64 0], by kernel_rfl, rfl⟩
instance : TRow Tryz.prog 211 24 := ⟨⟨_, Tryz.underlying211, rfl⟩, by kernel_rfl⟩
instance : TEl Tryz.prog 211 24 24 (.agg #[.int .u8 0, .int .u8 0, .int .u8 0, .int .u8 0, .int .u8 0, .int .u8 0, .int .u8 0, .int .u8 0, .int .u8 0, .int .u8 0, .int .u8 0, .int .u8 0, .int .u8 0, .int .u8 0, .int .u8 0, .int .u8 0, .int .u8 0, .int .u8 0, .int .u8 0, .int .u8 0, .int .u8 0, .int .u8 0, .int .u8 0, .int .u8 0]) := ⟨by kernel_rfl, rfl, by decide⟩
instance : TZero Tryz.prog 211 [.int .u8 0, .int .u8 0, .int .u8 0, .int .u8 0, .int .u8 0, .int .u8 0, .int .u8 0, .int .u8 0, .int .u8 0, .int .u8 0, .int .u8 0, .int .u8 0, .int .u8 0, .int .u8 0, .int .u8 0, .int .u8 0, .int .u8 0, .int .u8 0, .int .u8 0, .int .u8 0, .int .u8 0, .int .u8 0, .int .u8 0, .int .u8 0] := ⟨.agg #[.int .u8 0, .int .u8 0, .int .u8 0, .int .u8 0, .int .u8 0, .int .u8 0, .int .u8 0, .int .u8 0, .int .u8 0, .int .u8 0, .int .u8 0, .int .u8 0, .int .u8 0, .int .u8 0, .int .u8 0, .int .u8 0, .int .u8 0, .int .u8 0, .int .u8 0, .int .u8 0, .int .u8 0, .int .u8 0, .int .u8 0, .int .u8 0], by kernel_rfl, rfl⟩
instance : TRow Tryz.prog 219 20 := ⟨⟨_, Tryz.underlying219, rfl⟩, by kernel_rfl⟩
instance : TEl Tryz.prog 219 20 160 (.agg #[.int .u64 0, .int .u64 0, .int .u64 0, .int .u64 0, .int .u64 0, .int .u64 0, .int .u64 0, .int .u64 0, .int .u64 0, .int .u64 0, .int .u64 0, .int .u64 0, .int .u64 0, .int .u64 0, .int .u64 0, .int .u64 0, .int .u64 0, .int .u64 0, .int .u64 0, .int .u64 0]) := ⟨by kernel_rfl, rfl, by decide⟩
instance : TZero Tryz.prog 219 [.int .u64 0, .int .u64 0, .int .u64 0, .int .u64 0, .int .u64 0, .int .u64 0, .int .u64 0, .int .u64 0, .int .u64 0, .int .u64 0, .int .u64 0, .int .u64 0, .int .u64 0, .int .u64 0, .int .u64 0, .int .u64 0, .int .u64 0, .int .u64 0, .int .u64 0, .int .u64 0] := ⟨.agg #[.int .u64 0, .int .u64 0, .int .u64 0, .int .u64 0, .int .u64 0, .int .u64 0, .int .u64 0, .int .u64 0, .int .u64 0, .int .u64 0, .int .u64 0, .int .u64 0, .int .u64 0, .int .u64 0, .int .u64 0, .int .u64 0, .int .u64 0, .int .u64 0, .int .u64 0, .int .u64 0], by kernel_rfl, rfl⟩
instance : TRow Tryz.prog 220 65 := ⟨⟨_, Tryz.underlying220, rfl⟩, by kernel_rfl⟩
instance : TEl Tryz.prog 220 65 65 (.agg #[.int .u8 0, .int .u8 0, .int .u8 0, .int .u8 0, .int .u8 0, .int .u8 0, .int .u8 0, .int .u8 0, .int .u8 0, .int .u8 0, .int .u8 0, .int .u8 0, .int .u8 0, .int .u8 0, .int .u8 0, .int .u8 0, .int .u8 0, .int .u8 0, .int .u8 0, .int .u8 0, .int .u8 0, .int .u8 0, .int .u8 0, .int .u8 0, .int .u8 0, .int .u8 0, .int .u8 0, .int .u8 0, .int .u8 0, .int .u8 0, .int .u8 0, .int .u8 0, .int .u8 0, .int .u8 0, .int .u8 0, .int .u8 0, .int .u8 0, .int .u8 0, .int .u8 0, .int .u8 0, .int .u8 0, .int .u8 0, .int .u8 0, .int .u8 0, .int .u8 0, .int .u8 0, .int .u8 0, .int .u8 0, .int .u8 0, .int .u8 0, .int .u8 0, .int .u8 0, .int .u8 0, .int .u8 0, .int .u8 0, .int .u8 0, .int .u8 0, .int .u8 0, .int .u8 0, .int .u8 0, .int .u8 0, .int .u8 0, .int .u8 0, .int .u8 0, .int .u8 0]) := ⟨by kernel_rfl, rfl, by decide⟩
instance : TZero Tryz.prog 220 [.int .u8 0, .int .u8 0, .int .u8 0, .int .u8 0, .int .u8 0, .int .u8 0, .int .u8 0, .int .u8 0, .int .u8 0, .int .u8 0, .int .u8 0, .int .u8 0, .int .u8 0, .int .u8 0, .int .u8 0, .int .u8 0, .int .u8 0, .int .u8 0, .int .u8 0, .int .u8 0, .int .u8 0, .int .u8 0, .int .u8 0, .int .u8 0, .int .u8 0, .int .u8 0, .int .u8 0, .int .u8 0, .int .u8 0, .int .u8 0, .int .u8 0, .int .u8 0, .int .u8 0, .int .u8 0, .int .u8 0, .int .u8 0, .int .u8 0, .int .u8 0, .int .u8 0, .int .u8 0, .int .u8 0, .int .u8 0, .int .u8 0, .int .u8 0, .int .u8 0, .int .u8 0, .int .u8 0, .int .u8 0, .int .u8 0, .int .u8 0, .int .u8 0, .int .u8 0, .int .u8 0, .int .u8 0, .int .u8 0, .int .u8 0, .int .u8 0, .int .u8 0, .int .u8 0, .int .u8 0, .int .u8 0, .int .u8 0, .int .u8 0, .int .u8 0, .int .u8 0] := ⟨.agg #[.int .u8 0, .int .u8 0, .int .u8 0, .int .u8 0, .int .u8 0, .int .u8 0, .int .u8 0, .int .u8 0, .int .u8 0, .int .u8 0, .int .u8 0, .int .u8 0, .int .u8 0, .int .u8 0, .int .u8 0, .int .u8 0, .int .u8 0, .int .u8 0, .int .u8 0, .int .u8 0, .int .u8 0, .int .u8 0, .int .u8 0, .int .u8 0, .int .u8 0, .int .u8 0, .int .u8 0, .int .u8 0, .int .u8 0, .int .u8 0, .int .u8 0, .int .u8 0, .int .u8 0, .int .u8 0, .int .u8 0, .int .u8 0, .int .u8 0, .int .u8 0, .int .u8 0, .int .u8 0, .int .u8 0, .int .u8 0, .int .u8 0, .int .u8 0, .int .u8 0, .int .u8 0, .int .u8 0, .int .u8 0, .int .u8 0, .int .u8 0, .int .u8 0, .int .u8 0, .int .u8 0, .int .u8 0, .int .u8 0, .int .u8 0, .int .u8 0, .int .u8 0, .int .u8 0, .int .u8 0, .int .u8 0, .int .u8 0, .int .u8 0, .int .u8 0, .int .u8 0], by kernel_rfl, rfl⟩
instance : TRow Tryz.prog 224 32 := ⟨⟨_, Tryz.underlying224, rfl⟩, by kernel_rfl⟩
instance : TEl Tryz.prog 224 32 32 (.agg #[.int .u8 0, .int .u8 0, .int .u8 0, .int .u8 0, .int .u8 0, .int .u8 0, .int .u8 0, .int .u8 0, .int .u8 0, .int .u8 0, .int .u8 0, .int .u8 0, .int .u8 0, .int .u8 0, .int .u8 0, .int .u8 0, .int .u8 0, .int .u8 0, .int .u8 0, .int .u8 0, .int .u8 0, .int .u8 0, .int .u8 0, .int .u8 0, .int .u8 0, .int .u8 0, .int .u8 0, .int .u8 0, .int .u8 0, .int .u8 0, .int .u8 0, .int .u8 0]) := ⟨by kernel_rfl, rfl, by decide⟩
instance : TZero Tryz.prog 224 [.int .u8 0, .int .u8 0, .int .u8 0, .int .u8 0, .int .u8 0, .int .u8 0, .int .u8 0, .int .u8 0, .int .u8 0, .int .u8 0, .int .u8 0, .int .u8 0, .int .u8 0, .int .u8 0, .int .u8 0, .int .u8 0, .int .u8 0, .int .u8 0, .int .u8 0, .int .u8 0, .int .u8 0, .int .u8 0, .int .u8 0, .int .u8 0, .int .u8 0, .int .u8 0, .int .u8 0, .int .u8 0, .int .u8 0, .int .u8 0, .int .u8 0, .int .u8 0] := ⟨.agg #[.int .u8 0, .int .u8 0, .int .u8 0, .int .u8 0, .int .u8 0, .int .u8 0, .int .u8 0, .int .u8 0, .int .u8 0, .int .u8 0, .int .u8 0, .int .u8 0, .int .u8 0, .int .u8 0, .int .u8 0, .int .u8 0, .int .u8 0, .int .u8 0, .int .u8 0, .int .u8 0, .int .u8 0, .int .u8 0, .int .u8 0, .int .u8 0, .int .u8 0, .int .u8 0, .int .u8 0, .int .u8 0, .int .u8 0, .int .u8 0, .int .u8 0, .int .u8 0], by kernel_rfl, rfl⟩
instance : TRow Tryz.prog 225 64 := ⟨⟨_, Tryz.underlying225, rfl⟩, by kernel_rfl⟩
instance : TEl Tryz.prog 225 64 64 (.agg #[.int .u8 0, .int .u8 0, .int .u8 0, .int .u8 0, .int .u8 0, .int .u8 0, .int .u8 0, .int .u8 0, .int .u8 0, .int .u8 0, .int .u8 0, .int .u8 0, .int .u8 0, .int .u8 0, .int .u8 0, .int .u8 0, .int .u8 0, .int .u8 0, .int .u8 0, .int .u8 0, .int .u8 0, .int .u8 0, .int .u8 0, .int .u8 0, .int .u8 0, .int .u8 0, .int .u8 0, .int .u8 0, .int .u8 0, .int .u8 0, .int .u8 0, .int .u8 0, .int .u8 0, .int .u8 0, .int .u8 0, .int .u8 0, .int .u8 0, .int .u8 0, .int .u8 0, .int .u8 0, .int .u8 0, .int .u8 0, .int .u8 0, .int .u8 0, .int .u8 0, .int .u8 0, .int .u8 0, .int .u8 0, .int .u8 0, .int .u8 0, .int .u8 0, .int .u8 0, .int .u8 0, .int .u8 0, .int .u8 0, .int .u8 0, .int .u8 0, .int .u8 0, .int .u8 0, .int .u8 0, .int .u8 0, .int .u8 0, .int .u8 0, .int .u8 0]) := ⟨by kernel_rfl, rfl, by decide⟩
instance : TZero Tryz.prog 225 [.int .u8 0, .int .u8 0, .int .u8 0, .int .u8 0, .int .u8 0, .int .u8 0, .int .u8 0, .int .u8 0, .int .u8 0, .int .u8 0, .int .u8 0, .int .u8 0, .int .u8 0, .int .u8 0, .int .u8 0, .int .u8 0, .int .u8 0, .int .u8 0, .int .u8 0, .int .u8 0, .int .u8 0, .int .u8 0, .int .u8 0, .int .u8 0, .int .u8 0, .int .u8 0, .int .u8 0, .int .u8 0, .int .u8 0, .int .u8 0, .int .u8 0, .int .u8 0, .int .u8 0, .int .u8 0, .int .u8 0, .int .u8 0, .int .u8 0, .int .u8 0, .int .u8 0, .int .u8 0, .int .u8 0, .int .u8 0, .int .u8 0, .int .u8 0, .int .u8 0, .int .u8 0, .int .u8 0, .int .u8 0, .int .u8 0, .int .u8 0, .int .u8 0, .int .u8 0, .int .u8 0, .int .u8 0, .int .u8 0, .int .u8 0, .int .u8 0, .int .u8 0, .int .u8 0, .int .u8 0, .int .u8 0, .int .u8 0, .int .u8 0, .int .u8 0] := ⟨.agg #[.int .u8 0, .int .u8 0, .int .u8 0, .int .u8 0, .int .u8 0, .int .u8 0, .int .u8 0, .int .u8 0, .int .u8 0, .int .u8 0, .int .u8 0, .int .u8 0, .int .u8 0, .int .u8 0, .int .u8 0, .int .u8 0, .int .u8 0, .int .u8 0, .int .u8 0, .int .u8 0, .int .u8 0, .int .u8 0, .int .u8 0, .int .u8 0, .int .u8 0, .int .u8 0, .int .u8 0, .int .u8 0, .int .u8 0, .int .u8 0, .int .u8 0, .int .u8 0, .int .u8 0, .int .u8 0, .int .u8 0, .int .u8 0, .int .u8 0, .int .u8 0, .int .u8 0, .int .u8 0, .int .u8 0, .int .u8 0, .int .u8 0, .int .u8 0, .int .u8 0, .int .u8 0, .int .u8 0, .int .u8 0, .int .u8 0, .int .u8 0, .int .u8 0, .int .u8 0, .int .u8 0, .int .u8 0, .int .u8 0, .int .u8 0, .int .u8 0, .int .u8 0, .int .u8 0, .int .u8 0, .int .u8 0, .int .u8 0, .int .u8 0, .int .u8 0], by kernel_rfl, rfl⟩
instance : TRow Tryz.prog 226 4 := ⟨⟨_, Tryz.underlying226, rfl⟩, by kernel_rfl⟩
instance : TFld Tryz.prog 226 0 0 := ⟨_, _, 0, Tryz.underlying226, rfl, rfl, by kernel_rfl⟩
instance : TFld Tryz.prog 226 1 1 := ⟨_, _, 0, Tryz.underlying226, rfl, rfl, by kernel_rfl⟩
instance : TFld Tryz.prog 226 2 2 := ⟨_, _, 0, Tryz.underlying226, rfl, rfl, by kernel_rfl⟩
instance : TFld Tryz.prog 226 3 3 := ⟨_, _, 0, Tryz.underlying226, rfl, rfl, by kernel_rfl⟩
instance : TEl Tryz.prog 226 4 40 (.agg #[.pointer none, .pointer none, .pointer none, .string ⟨#[]⟩]) := ⟨by kernel_rfl, rfl, by decide⟩
instance : TZero Tryz.prog 226 [.pointer none, .pointer none, .pointer none, .string ⟨#[]⟩] := ⟨.agg #[.pointer none, .pointer none, .pointer none, .string ⟨#[]⟩], by kernel_rfl, rfl⟩
instance : TRow Tryz.prog 227 4 := ⟨⟨_, Tryz.underlying227, rfl⟩, by kernel_rfl⟩
instance : TFld Tryz.prog 227 0 0 := ⟨_, _, 0, Tryz.underlying227, rfl, rfl, by kernel_rfl⟩
instance : TFld Tryz.prog 227 1 1 := ⟨_, _, 0, Tryz.underlying227, rfl, rfl, by kernel_rfl⟩
instance : TFld Tryz.prog 227 2 2 := ⟨_, _, 0, Tryz.underlying227, rfl, rfl, by kernel_rfl⟩
instance : TFld Tryz.prog 227 3 3 := ⟨_, _, 0, Tryz.underlying227, rfl, rfl, by kernel_rfl⟩
instance : TEl Tryz.prog 227 4 40 (.agg #[.pointer none, .pointer none, .pointer none, .string ⟨#[]⟩]) := ⟨by kernel_rfl, rfl, by decide⟩
instance : TZero Tryz.prog 227 [.pointer none, .pointer none, .pointer none, .string ⟨#[]⟩] := ⟨.agg #[.pointer none, .pointer none, .pointer none, .string ⟨#[]⟩], by kernel_rfl, rfl⟩
instance : TOne Tryz.prog 231 := ⟨⟨_, Tryz.underlying231, rfl⟩, by kernel_rfl⟩
instance : TEl Tryz.prog 231 1 1 (.int .u8 0) := ⟨by kernel_rfl, rfl, by decide⟩
instance : TZero Tryz.prog 231 [.int .u8 0] := ⟨.int .u8 0, by kernel_rfl, rfl⟩
instance : TOne Tryz.prog 232 := ⟨⟨_, Tryz.underlying232, rfl⟩, by kernel_rfl⟩
instance : TEl Tryz.prog 232 1 1 (.int .u8 0) := ⟨by kernel_rfl, rfl, by decide⟩
instance : TZero Tryz.prog 232 [.int .u8 0] := ⟨.int .u8 0, by kernel_rfl, rfl⟩
instance : TOne Tryz.prog 234 := ⟨⟨_, Tryz.underlying234, rfl⟩, by kernel_rfl⟩
instance : TEl Tryz.prog 234 1 4 (.int .i32 0) := ⟨by kernel_rfl, rfl, by decide⟩
instance : TZero Tryz.prog 234 [.int .i32 0] := ⟨.int .i32 0, by kernel_rfl, rfl⟩
instance : TOne Tryz.prog 235 := ⟨⟨_, Tryz.underlying235, rfl⟩, by kernel_rfl⟩
instance : TEl Tryz.prog 235 1 4 (.int .i32 0) := ⟨by kernel_rfl, rfl, by decide⟩
instance : TZero Tryz.prog 235 [.int .i32 0] := ⟨.int .i32 0, by kernel_rfl, rfl⟩
instance : TRow Tryz.prog 236 11 := ⟨⟨_, Tryz.underlying236, rfl⟩, by kernel_rfl⟩
instance : TFld Tryz.prog 236 0 0 := ⟨_, _, 0, Tryz.underlying236, rfl, rfl, by kernel_rfl⟩
instance : TFld Tryz.prog 236 1 1 := ⟨_, _, 0, Tryz.underlying236, rfl, rfl, by kernel_rfl⟩
instance : TFld Tryz.prog 236 2 2 := ⟨_, _, 0, Tryz.underlying236, rfl, rfl, by kernel_rfl⟩
instance : TFld Tryz.prog 236 3 3 := ⟨_, _, 0, Tryz.underlying236, rfl, rfl, by kernel_rfl⟩
instance : TFld Tryz.prog 236 4 4 := ⟨_, _, 0, Tryz.underlying236, rfl, rfl, by kernel_rfl⟩
instance : TFld Tryz.prog 236 5 5 := ⟨_, _, 0, Tryz.underlying236, rfl, rfl, by kernel_rfl⟩
instance : TFld Tryz.prog 236 6 6 := ⟨_, _, 0, Tryz.underlying236, rfl, rfl, by kernel_rfl⟩
instance : TFld Tryz.prog 236 7 7 := ⟨_, _, 0, Tryz.underlying236, rfl, rfl, by kernel_rfl⟩
instance : TFld Tryz.prog 236 8 8 := ⟨_, _, 0, Tryz.underlying236, rfl, rfl, by kernel_rfl⟩
instance : TFld Tryz.prog 236 9 9 := ⟨_, _, 0, Tryz.underlying236, rfl, rfl, by kernel_rfl⟩
instance : TFld Tryz.prog 236 10 10 := ⟨_, _, 0, Tryz.underlying236, rfl, rfl, by kernel_rfl⟩
instance : TRow Tryz.prog 237 11 := ⟨⟨_, Tryz.underlying237, rfl⟩, by kernel_rfl⟩
instance : TFld Tryz.prog 237 0 0 := ⟨_, _, 0, Tryz.underlying237, rfl, rfl, by kernel_rfl⟩
instance : TFld Tryz.prog 237 1 1 := ⟨_, _, 0, Tryz.underlying237, rfl, rfl, by kernel_rfl⟩
instance : TFld Tryz.prog 237 2 2 := ⟨_, _, 0, Tryz.underlying237, rfl, rfl, by kernel_rfl⟩
instance : TFld Tryz.prog 237 3 3 := ⟨_, _, 0, Tryz.underlying237, rfl, rfl, by kernel_rfl⟩
instance : TFld Tryz.prog 237 4 4 := ⟨_, _, 0, Tryz.underlying237, rfl, rfl, by kernel_rfl⟩
instance : TFld Tryz.prog 237 5 5 := ⟨_, _, 0, Tryz.underlying237, rfl, rfl, by kernel_rfl⟩
instance : TFld Tryz.prog 237 6 6 := ⟨_, _, 0, Tryz.underlying237, rfl, rfl, by kernel_rfl⟩
instance : TFld Tryz.prog 237 7 7 := ⟨_, _, 0, Tryz.underlying237, rfl, rfl, by kernel_rfl⟩
instance : TFld Tryz.prog 237 8 8 := ⟨_, _, 0, Tryz.underlying237, rfl, rfl, by kernel_rfl⟩
instance : TFld Tryz.prog 237 9 9 := ⟨_, _, 0, Tryz.underlying237, rfl, rfl, by kernel_rfl⟩
instance : TFld Tryz.prog 237 10 10 := ⟨_, _, 0, Tryz.underlying237, rfl, rfl, by kernel_rfl⟩
instance : TFun Tryz.prog 3 := ⟨_, Tryz.func3, by kernel_rfl, by kernel_rfl⟩
instance : TFun Tryz.prog 4 := ⟨_, Tryz.func4, by kernel_rfl, by kernel_rfl⟩
instance : TFun Tryz.prog 5 := ⟨_, Tryz.func5, by kernel_rfl, by kernel_rfl⟩
instance : TFun Tryz.prog 6 := ⟨_, Tryz.func6, by kernel_rfl, by kernel_rfl⟩
instance : TFun Tryz.prog 7 := ⟨_, Tryz.func7, by kernel_rfl, by kernel_rfl⟩
instance : TFun Tryz.prog 8 := ⟨_, Tryz.func8, by kernel_rfl, by kernel_rfl⟩
instance : TFun Tryz.prog 9 := ⟨_, Tryz.func9, by kernel_rfl, by kernel_rfl⟩
instance : TFun Tryz.prog 10 := ⟨_, Tryz.func10, by kernel_rfl, by kernel_rfl⟩
instance : TFun Tryz.prog 11 := ⟨_, Tryz.func11, by kernel_rfl, by kernel_rfl⟩
instance : TFun Tryz.prog 12 := ⟨_, Tryz.func12, by kernel_rfl, by kernel_rfl⟩
instance : TFun Tryz.prog 13 := ⟨_, Tryz.func13, by kernel_rfl, by kernel_rfl⟩
instance : TFun Tryz.prog 14 := ⟨_, Tryz.func14, by kernel_rfl, by kernel_rfl⟩
instance : TFun Tryz.prog 15 := ⟨_, Tryz.func15, by kernel_rfl, by kernel_rfl⟩
instance : TFun Tryz.prog 16 := ⟨_, Tryz.func16, by kernel_rfl, by kernel_rfl⟩
instance : TFun Tryz.prog 17 := ⟨_, Tryz.func17, by kernel_rfl, by kernel_rfl⟩
instance : TFun Tryz.prog 18 := ⟨_, Tryz.func18, by kernel_rfl, by kernel_rfl⟩
instance : TFun Tryz.prog 19 := ⟨_, Tryz.func19, by kernel_rfl, by kernel_rfl⟩
instance : TFun Tryz.prog 20 := ⟨_, Tryz.func20, by kernel_rfl, by kernel_rfl⟩
instance : TFun Tryz.prog 21 := ⟨_, Tryz.func21, by kernel_rfl, by kernel_rfl⟩
instance : TFun Tryz.prog 22 := ⟨_, Tryz.func22, by kernel_rfl, by kernel_rfl⟩
instance : TFun Tryz.prog 23 := ⟨_, Tryz.func23, by kernel_rfl, by kernel_rfl⟩
instance : TFun Tryz.prog 24 := ⟨_, Tryz.func24, by kernel_rfl, by kernel_rfl⟩
instance : TFun Tryz.prog 25 := ⟨_, Tryz.func25, by kernel_rfl, by kernel_rfl⟩
instance : TFun Tryz.prog 26 := ⟨_, Tryz.func26, by kernel_rfl, by kernel_rfl⟩
instance : TFun Tryz.prog 27 := ⟨_, Tryz.func27, by kernel_rfl, by kernel_rfl⟩
instance : TFun Tryz.prog 28 := ⟨_, Tryz.func28, by kernel_rfl, by kernel_rfl⟩
instance : TFun Tryz.prog 29 := ⟨_, Tryz.func29, by kernel_rfl, by kernel_rfl⟩
instance : TFun Tryz.prog 30 := ⟨_, Tryz.func30, by kernel_rfl, by kernel_rfl⟩
instance : TFun Tryz.prog 31 := ⟨_, Tryz.func31, by kernel_rfl, by kernel_rfl⟩
instance : TFun Tryz.prog 32 := ⟨_, Tryz.func32, by kernel_rfl, by kernel_rfl⟩
instance : TFun Tryz.prog 33 := ⟨_, Tryz.func33, by kernel_rfl, by kernel_rfl⟩
instance : TFun Tryz.prog 34 := ⟨_, Tryz.func34, by kernel_rfl, by kernel_rfl⟩
instance : TFun Tryz.prog 35 := ⟨_, Tryz.func35, by kernel_rfl, by kernel_rfl⟩
instance : TFun Tryz.prog 36 := ⟨_, Tryz.func36, by kernel_rfl, by kernel_rfl⟩
instance : TFun Tryz.prog 37 := ⟨_, Tryz.func37, by kernel_rfl, by kernel_rfl⟩
instance : TFun Tryz.prog 38 := ⟨_, Tryz.func38, by kernel_rfl, by kernel_rfl⟩
instance : TFun Tryz.prog 39 := ⟨_, Tryz.func39, by kernel_rfl, by kernel_rfl⟩
instance : TFun Tryz.prog 40 := ⟨_, Tryz.func40, by kernel_rfl, by kernel_rfl⟩
instance : TFun Tryz.prog 41 := ⟨_, Tryz.func41, by kernel_rfl, by kernel_rfl⟩
instance : TFun Tryz.prog 42 := ⟨_, Tryz.func42, by kernel_rfl, by kernel_rfl⟩
instance : TFun Tryz.prog 43 := ⟨_, Tryz.func43, by kernel_rfl, by kernel_rfl⟩
instance : TFun Tryz.prog 44 := ⟨_, Tryz.func44, by kernel_rfl, by kernel_rfl⟩
instance : TFun Tryz.prog 45 := ⟨_, Tryz.func45, by kernel_rfl, by kernel_rfl⟩
instance : TFun Tryz.prog 46 := ⟨_, Tryz.func46, by kernel_rfl, by kernel_rfl⟩
instance : TFun Tryz.prog 47 := ⟨_, Tryz.func47, by kernel_rfl, by kernel_rfl⟩
instance : TFun Tryz.prog 48 := ⟨_, Tryz.func48, by kernel_rfl, by kernel_rfl⟩
instance : TFun Tryz.prog 49 := ⟨_, Tryz.func49, by kernel_rfl, by kernel_rfl⟩
instance : TFun Tryz.prog 50 := ⟨_, Tryz.func50, by kernel_rfl, by kernel_rfl⟩
instance : TFun Tryz.prog 51 := ⟨_, Tryz.func51, by kernel_rfl, by kernel_rfl⟩
instance : TFun Tryz.prog 52 := ⟨_, Tryz.func52, by kernel_rfl, by kernel_rfl⟩
instance : TFun Tryz.prog 54 := ⟨_, Tryz.func54, by kernel_rfl, by kernel_rfl⟩
instance : TFun Tryz.prog 55 := ⟨_, Tryz.func55, by kernel_rfl, by kernel_rfl⟩
instance : TFun Tryz.prog 56 := ⟨_, Tryz.func56, by kernel_rfl, by kernel_rfl⟩
instance : TFun Tryz.prog 57 := ⟨_, Tryz.func57, by kernel_rfl, by kernel_rfl⟩
instance : TFun Tryz.prog 58 := ⟨_, Tryz.func58, by kernel_rfl, by kernel_rfl⟩
instance : TFun Tryz.prog 59 := ⟨_, Tryz.func59, by kernel_rfl, by kernel_rfl⟩
instance : TFun Tryz.prog 60 := ⟨_, Tryz.func60, by kernel_rfl, by kernel_rfl⟩
instance : TFun Tryz.prog 61 := ⟨_, Tryz.func61, by kernel_rfl, by kernel_rfl⟩
instance : TFun Tryz.prog 62 := ⟨_, Tryz.func62, by kernel_rfl, by kernel_rfl⟩
instance : TFun Tryz.prog 63 := ⟨_, Tryz.func63, by kernel_rfl, by kernel_rfl⟩
instance : TFun Tryz.prog 64 := ⟨_, Tryz.func64, by kernel_rfl, by kernel_rfl⟩
instance : TFun Tryz.prog 65 := ⟨_, Tryz.func65, by kernel_rfl, by kernel_rfl⟩
instance : TFun Tryz.prog 66 := ⟨_, Tryz.func66, by kernel_rfl, by kernel_rfl⟩
instance : TFun Tryz.prog 67 := ⟨_, Tryz.func67, by kernel_rfl, by kernel_rfl⟩
instance : TFun Tryz.prog 68 := ⟨_, Tryz.func68, by kernel_rfl, by kernel_rfl⟩
instance : TFun Tryz.prog 69 := ⟨_, Tryz.func69, by kernel_rfl, by kernel_rfl⟩
instance : TFun Tryz.prog 70 := ⟨_, Tryz.func70, by kernel_rfl, by kernel_rfl⟩
instance : TFun Tryz.prog 71 := ⟨_, Tryz.func71, by kernel_rfl, by kernel_rfl⟩
instance : TFun Tryz.prog 72 := ⟨_, Tryz.func72, by kernel_rfl, by kernel_rfl⟩
instance : TFun Tryz.prog 73 := ⟨_, Tryz.func73, by kernel_rfl, by kernel_rfl⟩
instance : TFun Tryz.prog 74 := ⟨_, Tryz.func74, by kernel_rfl, by kernel_rfl⟩
instance : TFun Tryz.prog 75 := ⟨_, Tryz.func75, by kernel_rfl, by kernel_rfl⟩
instance : TFun Tryz.prog 76 := ⟨_, Tryz.func76, by kernel_rfl, by kernel_rfl⟩
instance : TFun Tryz.prog 77 := ⟨_, Tryz.func77, by kernel_rfl, by kernel_rfl⟩
instance : TFun Tryz.prog 78 := ⟨_, Tryz.func78, by kernel_rfl, by kernel_rfl⟩
instance : TFun Tryz.prog 79 := ⟨_, Tryz.func79, by kernel_rfl, by kernel_rfl⟩
instance : TFun Tryz.prog 80 := ⟨_, Tryz.func80, by kernel_rfl, by kernel_rfl⟩
instance : TFun Tryz.prog 81 := ⟨_, Tryz.func81, by kernel_rfl, by kernel_rfl⟩
instance : TFun Tryz.prog 82 := ⟨_, Tryz.func82, by kernel_rfl, by kernel_rfl⟩
instance : TFun Tryz.prog 90 := ⟨_, Tryz.func90, by kernel_rfl, by kernel_rfl⟩
instance : TFun Tryz.prog 92 := ⟨_, Tryz.func92, by kernel_rfl, by kernel_rfl⟩
instance : TFun Tryz.prog 93 := ⟨_, Tryz.func93, by kernel_rfl, by kernel_rfl⟩
instance : TFun Tryz.prog 94 := ⟨_, Tryz.func94, by kernel_rfl, by kernel_rfl⟩
instance : TFun Tryz.prog 95 := ⟨_, Tryz.func95, by kernel_rfl, by kernel_rfl⟩
instance : TFun Tryz.prog 96 := ⟨_, Tryz.func96, by kernel_rfl, by kernel_rfl⟩
instance : TFun Tryz.prog 97 := ⟨_, Tryz.func97, by kernel_rfl, by kernel_rfl⟩
instance : TFun Tryz.prog 98 := ⟨_, Tryz.func98, by kernel_rfl, by kernel_rfl⟩
instance : TFun Tryz.prog 99 := ⟨_, Tryz.func99, by kernel_rfl, by kernel_rfl⟩
instance : TFun Tryz.prog 100 := ⟨_, Tryz.func100, by kernel_rfl, by kernel_rfl⟩
instance : TFun Tryz.prog 101 := ⟨_, Tryz.func101, by kernel_rfl, by kernel_rfl⟩
instance : TFun Tryz.prog 102 := ⟨_, Tryz.func102, by kernel_rfl, by kernel_rfl⟩
instance : TFun Tryz.prog 103 := ⟨_, Tryz.func103, by kernel_rfl, by kernel_rfl⟩
instance : TFun Tryz.prog 104 := ⟨_, Tryz.func104, by kernel_rfl, by kernel_rfl⟩
instance : TFun Tryz.prog 105 := ⟨_, Tryz.func105, by kernel_rfl, by kernel_rfl⟩
instance : TFun Tryz.prog 106 := ⟨_, Tryz.func106, by kernel_rfl, by kernel_rfl⟩
instance : TFun Tryz.prog 107 := ⟨_, Tryz.func107, by kernel_rfl, by kernel_rfl⟩
instance : TFun Tryz.prog 108 := ⟨_, Tryz.func108, by kernel_rfl, by kernel_rfl⟩
instance : TFun Tryz.prog 109 := ⟨_, Tryz.func109, by kernel_rfl, by kernel_rfl⟩
instance : TFun Tryz.prog 110 := ⟨_, Tryz.func110, by kernel_rfl, by kernel_rfl⟩
instance : TFun Tryz.prog 111 := ⟨_, Tryz.func111, by kernel_rfl, by kernel_rfl⟩
instance : TFun Tryz.prog 112 := ⟨_, Tryz.func112, by kernel_rfl, by kernel_rfl⟩
instance : TFun Tryz.prog 113 := ⟨_, Tryz.func113, by kernel_rfl, by kernel_rfl⟩
instance : TFun Tryz.prog 120 := ⟨_, Tryz.func120, by kernel_rfl, by kernel_rfl⟩
instance : TFun Tryz.prog 121 := ⟨_, Tryz.func121, by kernel_rfl, by kernel_rfl⟩
instance : TFun Tryz.prog 122 := ⟨_, Tryz.func122, by kernel_rfl, by kernel_rfl⟩
instance : TFun Tryz.prog 123 := ⟨_, Tryz.func123, by kernel_rfl, by kernel_rfl⟩
instance : TFun Tryz.prog 124 := ⟨_, Tryz.func124, by kernel_rfl, by kernel_rfl⟩
instance : TFun Tryz.prog 125 := ⟨_, Tryz.func125, by kernel_rfl, by kernel_rfl⟩
instance : TFun Tryz.prog 126 := ⟨_, Tryz.func126, by kernel_rfl, by kernel_rfl⟩
instance : TFun Tryz.prog 127 := ⟨_, Tryz.func127, by kernel_rfl, by kernel_rfl⟩
instance : TFun Tryz.prog 128 := ⟨_, Tryz.func128, by kernel_rfl, by kernel_rfl⟩
instance : TFun Tryz.prog 129 := ⟨_, Tryz.func129, by kernel_rfl, by kernel_rfl⟩
instance : TFun Tryz.prog 130 := ⟨_, Tryz.func130, by kernel_rfl, by kernel_rfl⟩
instance : TFun Tryz.prog 131 := ⟨_, Tryz.func131, by kernel_rfl, by kernel_rfl⟩
instance : TFun Tryz.prog 132 := ⟨_, Tryz.func132, by kernel_rfl, by kernel_rfl⟩
instance : TFun Tryz.prog 136 := ⟨_, Tryz.func136, by kernel_rfl, by kernel_rfl⟩
instance : TFun Tryz.prog 137 := ⟨_, Tryz.func137, by kernel_rfl, by kernel_rfl⟩
instance : TFun Tryz.prog 138 := ⟨_, Tryz.func138, by kernel_rfl, by kernel_rfl⟩
instance : TFun Tryz.prog 139 := ⟨_, Tryz.func139, by kernel_rfl, by kernel_rfl⟩
instance : TFun Tryz.prog 140 := ⟨_, Tryz.func140, by kernel_rfl, by kernel_rfl⟩
instance : TFun Tryz.prog 145 := ⟨_, Tryz.func145, by kernel_rfl, by kernel_rfl⟩

end Go.Proofs.YtpkpkojmaebflaaGreatDoor
namespace Go.Proofs.YtpkpkojmaebflaaGreatDoor
open Go.RowKit

def inB (n a b : Int) : Bool := decide (a ≤ n ∧ n ≤ b)
theorem inB_true {n a b : Int} (h1 : a ≤ n) (h2 : n ≤ b) : inB n a b = true := by simp [inB, h1, h2]
theorem inB_low {n a b : Int} (h : n < a) : inB n a b = false := by simp [inB]; omega
theorem inB_high {n a b : Int} (h : b < n) : inB n a b = false := by simp [inB]; omega

theorem in_any (n a b : Int) (w : World) : Calls Tryz.prog 81 #[.int .i64 n, .int .i64 a, .int .i64 b] w fun e w' => e = .returned (.bool (inB n a b)) ∧ w = w' := by
  by_cases h1 : a ≤ n
  · by_cases h2 : n ≤ b
    · rw [inB_true h1 h2]
      go_enter Tryz.func81, Tryz.ntmps81
      go_wp2
      go_ret
      exact ⟨rfl, rfl⟩
    · rw [inB_high (by omega)]
      go_enter Tryz.func81, Tryz.ntmps81
      go_wp2
      go_ret
      exact ⟨rfl, rfl⟩
  · rw [inB_low (by omega)]
    go_enter Tryz.func81, Tryz.ntmps81
    go_wp2
    go_ret
    exact ⟨rfl, rfl⟩

theorem l01In_any (n a b : Int) (w : World) : Calls Tryz.prog 72 #[.int .i64 n, .int .i64 a, .int .i64 b] w fun e w' => e = .returned (.bool (inB n a b)) ∧ w = w' := by
  by_cases h1 : a ≤ n
  · by_cases h2 : n ≤ b
    · rw [inB_true h1 h2]
      go_enter Tryz.func72, Tryz.ntmps72
      go_wp2
      go_ret
      exact ⟨rfl, rfl⟩
    · rw [inB_high (by omega)]
      go_enter Tryz.func72, Tryz.ntmps72
      go_wp2
      go_ret
      exact ⟨rfl, rfl⟩
  · rw [inB_low (by omega)]
    go_enter Tryz.func72, Tryz.ntmps72
    go_wp2
    go_ret
    exact ⟨rfl, rfl⟩

end Go.Proofs.YtpkpkojmaebflaaGreatDoor
namespace Go.Proofs.YtpkpkojmaebflaaGreatDoor

structure Space where
  mode : Int
  n : Int
  deriving DecidableEq, Inhabited
def Space.cells (s : Space) : List Value := [.int .i64 s.mode, .int .i64 s.n]

structure Asked where
  node : Int
  wide : Space
  high : Space
  rtl : Bool
  deriving DecidableEq, Inhabited
def Asked.cells (x : Asked) : List Value := [.int .i64 x.node, .int .i64 x.wide.mode, .int .i64 x.wide.n, .int .i64 x.high.mode, .int .i64 x.high.n, .bool x.rtl]

structure Rule where
  room : Int
  wide : Int
  high : Int
  deriving DecidableEq, Inhabited
def Rule.cells (x : Rule) : List Value := [.int .i64 x.room, .int .i64 x.wide, .int .i64 x.high]

structure Val where
  kind : Int
  n : Int
  deriving DecidableEq, Inhabited
def Val.cells (x : Val) : List Value := [.int .i64 x.kind, .int .i64 x.n]

structure ActD where
  kind : Int
  n : Int
  kid : Int
  pl : Int
  key : ByteArray
  value : Val
  table : List Rule
  wide : Int
  high : Int
  rtl : Bool
/-- An action's cells: the table is a slice. -/
def repAct (R : Nat → Prop) (w : World) (cs : List Value) (x : ActD) : Prop :=
  ∃ a c, cs = [.int .i64 x.kind, .int .i64 x.n, .int .i64 x.kid, .int .i64 x.pl, .string x.key, .int .i64 x.value.kind, .int .i64 x.value.n, .slice a x.table.length c, .int .i64 x.wide, .int .i64 x.high, .bool x.rtl] ∧ SliceAt (Flat Rule.cells) 3 R w a x.table
theorem repAct.mod {R S : Nat → Prop} {w w' : World} {cs : List Value} {x : ActD} (h : repAct R w cs x) (hm : Mod S w w') (hs : ∀ k, R k → ¬ S k) : repAct R w' cs x := by
  obtain ⟨a, c, h1, h2⟩ := h
  exact ⟨a, c, h1, h2.flatMod hm hs⟩

structure Frame where
  node : Int
  x : Int
  y : Int
  wide : Int
  high : Int
  deriving DecidableEq, Inhabited
def Frame.cells (f : Frame) : List Value := [.int .i64 f.node, .int .i64 f.x, .int .i64 f.y, .int .i64 f.wide, .int .i64 f.high]
structure Memo where
  node : Int
  wide : Space
  high : Space
  rtl : Bool
  bw : Int
  bh : Int
  bb : Int
  frames : List Frame
  deriving DecidableEq, Inhabited

end Go.Proofs.YtpkpkojmaebflaaGreatDoor
namespace Go.Proofs.YtpkpkojmaebflaaGreatDoor
open Go.RowKit

theorem toValue_any (x : Val) (w : World) : Calls Tryz.prog 128 #[.agg #[.int .i64 x.kind, .int .i64 x.n]] w fun e w' => e = .returned (.agg #[.int .i64 x.kind, .int .i64 x.n]) ∧ Mod (fun _ => False) w w' := by
  go_enter Tryz.func128, Tryz.ntmps128
  go_wp2
  refine bodyPost_ret (v := .agg #[.int .i64 x.kind, .int .i64 x.n]) (by simp [results, Tryz.results128, go_sem]) rfl ⟨rfl, by (repeat (first | with_reducible exact Mod.refl _ _ | with_reducible refine Mod.drewN ?_ _ | with_reducible refine Mod.drew ?_ | with_reducible refine Mod.alloc ?_ _ | ((with_reducible refine Mod.setNew ?_ ?_ _ _ _); (rotate_left; omega)) | with_reducible refine Mod.setAt ?_ _ _ _ ))⟩

set_option maxHeartbeats 1000000 in
theorem eqValue_any (x y : Val) (w : World) : Calls Tryz.prog 136 #[.agg #[.int .i64 x.kind, .int .i64 x.n], .agg #[.int .i64 y.kind, .int .i64 y.n]] w fun e w' => e = .returned (.bool (decide (x = y))) ∧ Mod (fun _ => False) w w' := by
  obtain ⟨x0, x1⟩ := x
  obtain ⟨y0, y1⟩ := y
  go_enter Tryz.func136, Tryz.ntmps136
  go_wp2
  all_goals
    go_ret
    refine ⟨ret_bool ?_, by (repeat (first | with_reducible exact Mod.refl _ _ | with_reducible refine Mod.drewN ?_ _ | with_reducible refine Mod.drew ?_ | with_reducible refine Mod.alloc ?_ _ | ((with_reducible refine Mod.setNew ?_ ?_ _ _ _); (rotate_left; omega)) | with_reducible refine Mod.setAt ?_ _ _ _ ))⟩
    simp_all

end Go.Proofs.YtpkpkojmaebflaaGreatDoor
namespace Go.Proofs.YtpkpkojmaebflaaGreatDoor
open Go.RowKit

theorem al2a (w : World) (A B : Obj) : ((w.alloc A).alloc B).heap[w.heap.size]? = some A := heap_alloc_keep (heap_alloc_new w A)
theorem al2b (w : World) (A B : Obj) : ((w.alloc A).alloc B).heap[w.heap.size + 1]? = some B := by
  have h := heap_alloc_new (w.alloc A) B
  rwa [World.size_alloc] at h
theorem al3a (w : World) (A B C : Obj) : (((w.alloc A).alloc B).alloc C).heap[w.heap.size]? = some A := heap_alloc_keep (heap_alloc_keep (heap_alloc_new w A))
theorem al3b (w : World) (A B C : Obj) : (((w.alloc A).alloc B).alloc C).heap[w.heap.size + 1]? = some B := by
  have h := heap_alloc_new (w.alloc A) B
  rw [World.size_alloc] at h
  exact heap_alloc_keep h
theorem al3c (w : World) (A B C : Obj) : (((w.alloc A).alloc B).alloc C).heap[w.heap.size + 1 + 1]? = some C := by
  have h := heap_alloc_new ((w.alloc A).alloc B) C
  rwa [World.size_alloc, World.size_alloc] at h
theorem set_in {w : World} {b j : Nat} {l : List Value} {T : TypeId} {fr : Nat × Nat} {v : Value} (h : w.heap[b]? = some (.cells l.toArray T fr)) : (w.setCell ⟨b, j, none⟩ v).heap[b]? = some (.cells (l.set j v).toArray T fr) := by
  simp [World.setCell, Array.getElem?_modify, h]

structure Sides where
  left : Val
  top : Val
  right : Val
  bottom : Val
  start : Val
  stop : Val
  deriving DecidableEq, Inhabited
def Sides.cells (x : Sides) : List Value := [.int .i64 x.left.kind, .int .i64 x.left.n, .int .i64 x.top.kind, .int .i64 x.top.n, .int .i64 x.right.kind, .int .i64 x.right.n, .int .i64 x.bottom.kind, .int .i64 x.bottom.n, .int .i64 x.start.kind, .int .i64 x.start.n, .int .i64 x.stop.kind, .int .i64 x.stop.n]

set_option maxRecDepth 100000 in
set_option maxHeartbeats 8000000 in
theorem toSides_any (x : Sides) (w : World) : Calls Tryz.prog 129 #[.agg #[.int .i64 x.left.kind, .int .i64 x.left.n, .int .i64 x.top.kind, .int .i64 x.top.n, .int .i64 x.right.kind, .int .i64 x.right.n, .int .i64 x.bottom.kind, .int .i64 x.bottom.n, .int .i64 x.start.kind, .int .i64 x.start.n, .int .i64 x.stop.kind, .int .i64 x.stop.n]] w fun e w' => e = .returned (.agg #[.int .i64 x.left.kind, .int .i64 x.left.n, .int .i64 x.top.kind, .int .i64 x.top.n, .int .i64 x.right.kind, .int .i64 x.right.n, .int .i64 x.bottom.kind, .int .i64 x.bottom.n, .int .i64 x.start.kind, .int .i64 x.start.n, .int .i64 x.stop.kind, .int .i64 x.stop.n]) ∧ Mod (fun _ => False) w w' := by
  go_enter Tryz.func129, Tryz.ntmps129
  go_wp2_with fail
  refine (toValue_any x.left _).mono ?_
  rintro e w1 ⟨rfl, hm1⟩
  have hM1 : Mod (fun _ => False) w w1 := by (repeat (first | with_reducible exact Mod.refl _ _ | with_reducible refine Mod.drewN ?_ _ | with_reducible refine Mod.drew ?_ | with_reducible refine Mod.alloc ?_ _ | ((with_reducible refine Mod.setNew ?_ ?_ _ _ _); (rotate_left; omega)) | with_reducible refine Mod.setAt ?_ _ _ _ | with_reducible exact hm1 | with_reducible refine Mod.thenNone ?_ hm1 ))
  have hS1 := hm1.blk (al3a _ _ _ _) (fun f => f)
  have hR1 := hm1.blk (al3b _ _ _ _) (fun f => f)
  have hD1 := hm1.blk (al3c _ _ _ _) (fun f => f)
  have c1_2 := blk_cell hS1 (j := 2) rfl
  have c1_3 := blk_cell hS1 (j := 3) rfl
  have d1_0 := blk_cell hD1 (j := 0) rfl
  have d1_1 := blk_cell hD1 (j := 1) rfl
  have z1_0 := blk_free hD1 0
  have z1_1 := blk_free hD1 1
  have hr1_0 : w.heap.size < w1.heap.size := (Array.getElem?_eq_some_iff.1 hS1).1
  have hr1_1 : w.heap.size + 1 < w1.heap.size := (Array.getElem?_eq_some_iff.1 hR1).1
  have hr1_2 : w.heap.size + 1 + 1 < w1.heap.size := (Array.getElem?_eq_some_iff.1 hD1).1
  clear hm1
  go_wp2_with fail
  refine (toValue_any x.top _).mono ?_
  rintro e w2 ⟨rfl, hm2⟩
  have hM2 : Mod (fun _ => False) w w2 := by (repeat (first | with_reducible exact Mod.refl _ _ | with_reducible refine Mod.drewN ?_ _ | with_reducible refine Mod.drew ?_ | with_reducible refine Mod.alloc ?_ _ | ((with_reducible refine Mod.setNew ?_ ?_ _ _ _); (rotate_left; omega)) | with_reducible refine Mod.setAt ?_ _ _ _ | with_reducible exact hm2 | with_reducible refine Mod.thenNone ?_ hm2 | with_reducible exact hM1 | with_reducible refine Mod.thenNone ?_ hM1 ))
  have hS2 := hm2.blk (set_far (set_far hS1 (by omega)) (by omega)) (fun f => f)
  have hR2 := hm2.blk (set_far (set_far hR1 (by omega)) (by omega)) (fun f => f)
  have hD2 : w2.heap[w.heap.size + 1 + 1]? = some (.cells #[.int .i64 x.left.kind, .int .i64 x.left.n, .int .i64 0, .int .i64 0, .int .i64 0, .int .i64 0, .int .i64 0, .int .i64 0, .int .i64 0, .int .i64 0, .int .i64 0, .int .i64 0] 76 (0, 0)) := hm2.blk (set_in (set_in hD1)) (fun f => f)
  have c2_4 := blk_cell hS2 (j := 4) rfl
  have c2_5 := blk_cell hS2 (j := 5) rfl
  have d2_2 := blk_cell hD2 (j := 2) rfl
  have d2_3 := blk_cell hD2 (j := 3) rfl
  have z2_2 := blk_free hD2 2
  have z2_3 := blk_free hD2 3
  have hr2_0 : w.heap.size < w2.heap.size := (Array.getElem?_eq_some_iff.1 hS2).1
  have hr2_1 : w.heap.size + 1 < w2.heap.size := (Array.getElem?_eq_some_iff.1 hR2).1
  have hr2_2 : w.heap.size + 1 + 1 < w2.heap.size := (Array.getElem?_eq_some_iff.1 hD2).1
  clear hm2 hS1 hR1 hD1 hM1 hr1_0 hr1_1 hr1_2 c1_2 c1_3 d1_0 z1_0 d1_1 z1_1
  go_wp2_with fail
  refine (toValue_any x.right _).mono ?_
  rintro e w3 ⟨rfl, hm3⟩
  have hM3 : Mod (fun _ => False) w w3 := by (repeat (first | with_reducible exact Mod.refl _ _ | with_reducible refine Mod.drewN ?_ _ | with_reducible refine Mod.drew ?_ | with_reducible refine Mod.alloc ?_ _ | ((with_reducible refine Mod.setNew ?_ ?_ _ _ _); (rotate_left; omega)) | with_reducible refine Mod.setAt ?_ _ _ _ | with_reducible exact hm3 | with_reducible refine Mod.thenNone ?_ hm3 | with_reducible exact hM2 | with_reducible refine Mod.thenNone ?_ hM2 ))
  have hS3 := hm3.blk (set_far (set_far hS2 (by omega)) (by omega)) (fun f => f)
  have hR3 := hm3.blk (set_far (set_far hR2 (by omega)) (by omega)) (fun f => f)
  have hD3 : w3.heap[w.heap.size + 1 + 1]? = some (.cells #[.int .i64 x.left.kind, .int .i64 x.left.n, .int .i64 x.top.kind, .int .i64 x.top.n, .int .i64 0, .int .i64 0, .int .i64 0, .int .i64 0, .int .i64 0, .int .i64 0, .int .i64 0, .int .i64 0] 76 (0, 0)) := hm3.blk (set_in (set_in hD2)) (fun f => f)
  have c3_6 := blk_cell hS3 (j := 6) rfl
  have c3_7 := blk_cell hS3 (j := 7) rfl
  have d3_4 := blk_cell hD3 (j := 4) rfl
  have d3_5 := blk_cell hD3 (j := 5) rfl
  have z3_4 := blk_free hD3 4
  have z3_5 := blk_free hD3 5
  have hr3_0 : w.heap.size < w3.heap.size := (Array.getElem?_eq_some_iff.1 hS3).1
  have hr3_1 : w.heap.size + 1 < w3.heap.size := (Array.getElem?_eq_some_iff.1 hR3).1
  have hr3_2 : w.heap.size + 1 + 1 < w3.heap.size := (Array.getElem?_eq_some_iff.1 hD3).1
  clear hm3 hS2 hR2 hD2 hM2 hr2_0 hr2_1 hr2_2 c2_4 c2_5 d2_2 z2_2 d2_3 z2_3
  go_wp2_with fail
  refine (toValue_any x.bottom _).mono ?_
  rintro e w4 ⟨rfl, hm4⟩
  have hM4 : Mod (fun _ => False) w w4 := by (repeat (first | with_reducible exact Mod.refl _ _ | with_reducible refine Mod.drewN ?_ _ | with_reducible refine Mod.drew ?_ | with_reducible refine Mod.alloc ?_ _ | ((with_reducible refine Mod.setNew ?_ ?_ _ _ _); (rotate_left; omega)) | with_reducible refine Mod.setAt ?_ _ _ _ | with_reducible exact hm4 | with_reducible refine Mod.thenNone ?_ hm4 | with_reducible exact hM3 | with_reducible refine Mod.thenNone ?_ hM3 ))
  have hS4 := hm4.blk (set_far (set_far hS3 (by omega)) (by omega)) (fun f => f)
  have hR4 := hm4.blk (set_far (set_far hR3 (by omega)) (by omega)) (fun f => f)
  have hD4 : w4.heap[w.heap.size + 1 + 1]? = some (.cells #[.int .i64 x.left.kind, .int .i64 x.left.n, .int .i64 x.top.kind, .int .i64 x.top.n, .int .i64 x.right.kind, .int .i64 x.right.n, .int .i64 0, .int .i64 0, .int .i64 0, .int .i64 0, .int .i64 0, .int .i64 0] 76 (0, 0)) := hm4.blk (set_in (set_in hD3)) (fun f => f)
  have c4_8 := blk_cell hS4 (j := 8) rfl
  have c4_9 := blk_cell hS4 (j := 9) rfl
  have d4_6 := blk_cell hD4 (j := 6) rfl
  have d4_7 := blk_cell hD4 (j := 7) rfl
  have z4_6 := blk_free hD4 6
  have z4_7 := blk_free hD4 7
  have hr4_0 : w.heap.size < w4.heap.size := (Array.getElem?_eq_some_iff.1 hS4).1
  have hr4_1 : w.heap.size + 1 < w4.heap.size := (Array.getElem?_eq_some_iff.1 hR4).1
  have hr4_2 : w.heap.size + 1 + 1 < w4.heap.size := (Array.getElem?_eq_some_iff.1 hD4).1
  clear hm4 hS3 hR3 hD3 hM3 hr3_0 hr3_1 hr3_2 c3_6 c3_7 d3_4 z3_4 d3_5 z3_5
  go_wp2_with fail
  refine (toValue_any x.start _).mono ?_
  rintro e w5 ⟨rfl, hm5⟩
  have hM5 : Mod (fun _ => False) w w5 := by (repeat (first | with_reducible exact Mod.refl _ _ | with_reducible refine Mod.drewN ?_ _ | with_reducible refine Mod.drew ?_ | with_reducible refine Mod.alloc ?_ _ | ((with_reducible refine Mod.setNew ?_ ?_ _ _ _); (rotate_left; omega)) | with_reducible refine Mod.setAt ?_ _ _ _ | with_reducible exact hm5 | with_reducible refine Mod.thenNone ?_ hm5 | with_reducible exact hM4 | with_reducible refine Mod.thenNone ?_ hM4 ))
  have hS5 := hm5.blk (set_far (set_far hS4 (by omega)) (by omega)) (fun f => f)
  have hR5 := hm5.blk (set_far (set_far hR4 (by omega)) (by omega)) (fun f => f)
  have hD5 : w5.heap[w.heap.size + 1 + 1]? = some (.cells #[.int .i64 x.left.kind, .int .i64 x.left.n, .int .i64 x.top.kind, .int .i64 x.top.n, .int .i64 x.right.kind, .int .i64 x.right.n, .int .i64 x.bottom.kind, .int .i64 x.bottom.n, .int .i64 0, .int .i64 0, .int .i64 0, .int .i64 0] 76 (0, 0)) := hm5.blk (set_in (set_in hD4)) (fun f => f)
  have c5_10 := blk_cell hS5 (j := 10) rfl
  have c5_11 := blk_cell hS5 (j := 11) rfl
  have d5_8 := blk_cell hD5 (j := 8) rfl
  have d5_9 := blk_cell hD5 (j := 9) rfl
  have z5_8 := blk_free hD5 8
  have z5_9 := blk_free hD5 9
  have hr5_0 : w.heap.size < w5.heap.size := (Array.getElem?_eq_some_iff.1 hS5).1
  have hr5_1 : w.heap.size + 1 < w5.heap.size := (Array.getElem?_eq_some_iff.1 hR5).1
  have hr5_2 : w.heap.size + 1 + 1 < w5.heap.size := (Array.getElem?_eq_some_iff.1 hD5).1
  clear hm5 hS4 hR4 hD4 hM4 hr4_0 hr4_1 hr4_2 c4_8 c4_9 d4_6 z4_6 d4_7 z4_7
  go_wp2_with fail
  refine (toValue_any x.stop _).mono ?_
  rintro e w6 ⟨rfl, hm6⟩
  have hM6 : Mod (fun _ => False) w w6 := by (repeat (first | with_reducible exact Mod.refl _ _ | with_reducible refine Mod.drewN ?_ _ | with_reducible refine Mod.drew ?_ | with_reducible refine Mod.alloc ?_ _ | ((with_reducible refine Mod.setNew ?_ ?_ _ _ _); (rotate_left; omega)) | with_reducible refine Mod.setAt ?_ _ _ _ | with_reducible exact hm6 | with_reducible refine Mod.thenNone ?_ hm6 | with_reducible exact hM5 | with_reducible refine Mod.thenNone ?_ hM5 ))
  have hS6 := hm6.blk (set_far (set_far hS5 (by omega)) (by omega)) (fun f => f)
  have hR6 := hm6.blk (set_far (set_far hR5 (by omega)) (by omega)) (fun f => f)
  have hD6 : w6.heap[w.heap.size + 1 + 1]? = some (.cells #[.int .i64 x.left.kind, .int .i64 x.left.n, .int .i64 x.top.kind, .int .i64 x.top.n, .int .i64 x.right.kind, .int .i64 x.right.n, .int .i64 x.bottom.kind, .int .i64 x.bottom.n, .int .i64 x.start.kind, .int .i64 x.start.n, .int .i64 0, .int .i64 0] 76 (0, 0)) := hm6.blk (set_in (set_in hD5)) (fun f => f)
  have d6_0 := blk_cell hD6 (j := 0) rfl
  have d6_1 := blk_cell hD6 (j := 1) rfl
  have d6_2 := blk_cell hD6 (j := 2) rfl
  have d6_3 := blk_cell hD6 (j := 3) rfl
  have d6_4 := blk_cell hD6 (j := 4) rfl
  have d6_5 := blk_cell hD6 (j := 5) rfl
  have d6_6 := blk_cell hD6 (j := 6) rfl
  have d6_7 := blk_cell hD6 (j := 7) rfl
  have d6_8 := blk_cell hD6 (j := 8) rfl
  have d6_9 := blk_cell hD6 (j := 9) rfl
  have d6_10 := blk_cell hD6 (j := 10) rfl
  have d6_11 := blk_cell hD6 (j := 11) rfl
  have z6_10 := blk_free hD6 10
  have z6_11 := blk_free hD6 11
  have r6_0 := blk_cell hR6 (j := 0) rfl
  have y6_0 := blk_free hR6 0
  have r6_1 := blk_cell hR6 (j := 1) rfl
  have y6_1 := blk_free hR6 1
  have r6_2 := blk_cell hR6 (j := 2) rfl
  have y6_2 := blk_free hR6 2
  have r6_3 := blk_cell hR6 (j := 3) rfl
  have y6_3 := blk_free hR6 3
  have r6_4 := blk_cell hR6 (j := 4) rfl
  have y6_4 := blk_free hR6 4
  have r6_5 := blk_cell hR6 (j := 5) rfl
  have y6_5 := blk_free hR6 5
  have r6_6 := blk_cell hR6 (j := 6) rfl
  have y6_6 := blk_free hR6 6
  have r6_7 := blk_cell hR6 (j := 7) rfl
  have y6_7 := blk_free hR6 7
  have r6_8 := blk_cell hR6 (j := 8) rfl
  have y6_8 := blk_free hR6 8
  have r6_9 := blk_cell hR6 (j := 9) rfl
  have y6_9 := blk_free hR6 9
  have r6_10 := blk_cell hR6 (j := 10) rfl
  have y6_10 := blk_free hR6 10
  have r6_11 := blk_cell hR6 (j := 11) rfl
  have y6_11 := blk_free hR6 11
  have hr6_0 : w.heap.size < w6.heap.size := (Array.getElem?_eq_some_iff.1 hS6).1
  have hr6_1 : w.heap.size + 1 < w6.heap.size := (Array.getElem?_eq_some_iff.1 hR6).1
  have hr6_2 : w.heap.size + 1 + 1 < w6.heap.size := (Array.getElem?_eq_some_iff.1 hD6).1
  clear hm6 hS5 hR5 hD5 hM5 hr5_0 hr5_1 hr5_2 c5_10 c5_11 d5_8 z5_8 d5_9 z5_9
  clear hS6 hR6 hD6
  go_wp2
  refine bodyPost_ret (v := .agg #[.int .i64 x.left.kind, .int .i64 x.left.n, .int .i64 x.top.kind, .int .i64 x.top.n, .int .i64 x.right.kind, .int .i64 x.right.n, .int .i64 x.bottom.kind, .int .i64 x.bottom.n, .int .i64 x.start.kind, .int .i64 x.start.n, .int .i64 x.stop.kind, .int .i64 x.stop.n]) ?_ rfl ⟨rfl, ?_⟩
  · simp [results, Tryz.results129, go_sem, *]
  · (repeat (first | with_reducible exact Mod.refl _ _ | with_reducible refine Mod.drewN ?_ _ | with_reducible refine Mod.drew ?_ | with_reducible refine Mod.alloc ?_ _ | ((with_reducible refine Mod.setNew ?_ ?_ _ _ _); (rotate_left; omega)) | with_reducible refine Mod.setAt ?_ _ _ _ | with_reducible exact hM6 | with_reducible refine Mod.thenNone ?_ hM6 ))

set_option maxRecDepth 100000 in
set_option maxHeartbeats 8000000 in
theorem eqSides_same (x : Sides) (w : World) : Calls Tryz.prog 137 #[.agg #[.int .i64 x.left.kind, .int .i64 x.left.n, .int .i64 x.top.kind, .int .i64 x.top.n, .int .i64 x.right.kind, .int .i64 x.right.n, .int .i64 x.bottom.kind, .int .i64 x.bottom.n, .int .i64 x.start.kind, .int .i64 x.start.n, .int .i64 x.stop.kind, .int .i64 x.stop.n], .agg #[.int .i64 x.left.kind, .int .i64 x.left.n, .int .i64 x.top.kind, .int .i64 x.top.n, .int .i64 x.right.kind, .int .i64 x.right.n, .int .i64 x.bottom.kind, .int .i64 x.bottom.n, .int .i64 x.start.kind, .int .i64 x.start.n, .int .i64 x.stop.kind, .int .i64 x.stop.n]] w fun e w' => e = .returned (.bool true) ∧ Mod (fun _ => False) w w' := by
  go_enter Tryz.func137, Tryz.ntmps137
  go_wp2_with fail
  refine (eqValue_any x.left x.left _).mono ?_
  rintro e w1 ⟨rfl, hm1⟩
  rw [decide_eq_true rfl]
  have hM1 : Mod (fun _ => False) w w1 := by (repeat (first | with_reducible exact Mod.refl _ _ | with_reducible refine Mod.drewN ?_ _ | with_reducible refine Mod.drew ?_ | with_reducible refine Mod.alloc ?_ _ | ((with_reducible refine Mod.setNew ?_ ?_ _ _ _); (rotate_left; omega)) | with_reducible refine Mod.setAt ?_ _ _ _ | with_reducible exact hm1 | with_reducible refine Mod.thenNone ?_ hm1 ))
  have hA1 := hm1.blk (al2a _ _ _) (fun f => f)
  have hB1 := hm1.blk (al2b _ _ _) (fun f => f)
  have c1_2 := blk_cell hA1 (j := 2) rfl
  have d1_2 := blk_cell hB1 (j := 2) rfl
  have c1_3 := blk_cell hA1 (j := 3) rfl
  have d1_3 := blk_cell hB1 (j := 3) rfl
  have hr1_0 : w.heap.size < w1.heap.size := (Array.getElem?_eq_some_iff.1 hA1).1
  have hr1_1 : w.heap.size + 1 < w1.heap.size := (Array.getElem?_eq_some_iff.1 hB1).1
  clear hm1
  go_wp2_with fail
  refine (eqValue_any x.top x.top _).mono ?_
  rintro e w2 ⟨rfl, hm2⟩
  rw [decide_eq_true rfl]
  have hM2 : Mod (fun _ => False) w w2 := hM1.thenNone hm2
  have hA2 := hm2.blk hA1 (fun f => f)
  have hB2 := hm2.blk hB1 (fun f => f)
  have c2_4 := blk_cell hA2 (j := 4) rfl
  have d2_4 := blk_cell hB2 (j := 4) rfl
  have c2_5 := blk_cell hA2 (j := 5) rfl
  have d2_5 := blk_cell hB2 (j := 5) rfl
  have hr2_0 : w.heap.size < w2.heap.size := (Array.getElem?_eq_some_iff.1 hA2).1
  have hr2_1 : w.heap.size + 1 < w2.heap.size := (Array.getElem?_eq_some_iff.1 hB2).1
  clear hm2 hA1 hB1 hM1 hr1_0 hr1_1 c1_2 d1_2 c1_3 d1_3
  go_wp2_with fail
  refine (eqValue_any x.right x.right _).mono ?_
  rintro e w3 ⟨rfl, hm3⟩
  rw [decide_eq_true rfl]
  have hM3 : Mod (fun _ => False) w w3 := hM2.thenNone hm3
  have hA3 := hm3.blk hA2 (fun f => f)
  have hB3 := hm3.blk hB2 (fun f => f)
  have c3_6 := blk_cell hA3 (j := 6) rfl
  have d3_6 := blk_cell hB3 (j := 6) rfl
  have c3_7 := blk_cell hA3 (j := 7) rfl
  have d3_7 := blk_cell hB3 (j := 7) rfl
  have hr3_0 : w.heap.size < w3.heap.size := (Array.getElem?_eq_some_iff.1 hA3).1
  have hr3_1 : w.heap.size + 1 < w3.heap.size := (Array.getElem?_eq_some_iff.1 hB3).1
  clear hm3 hA2 hB2 hM2 hr2_0 hr2_1 c2_4 d2_4 c2_5 d2_5
  go_wp2_with fail
  refine (eqValue_any x.bottom x.bottom _).mono ?_
  rintro e w4 ⟨rfl, hm4⟩
  rw [decide_eq_true rfl]
  have hM4 : Mod (fun _ => False) w w4 := hM3.thenNone hm4
  have hA4 := hm4.blk hA3 (fun f => f)
  have hB4 := hm4.blk hB3 (fun f => f)
  have c4_8 := blk_cell hA4 (j := 8) rfl
  have d4_8 := blk_cell hB4 (j := 8) rfl
  have c4_9 := blk_cell hA4 (j := 9) rfl
  have d4_9 := blk_cell hB4 (j := 9) rfl
  have hr4_0 : w.heap.size < w4.heap.size := (Array.getElem?_eq_some_iff.1 hA4).1
  have hr4_1 : w.heap.size + 1 < w4.heap.size := (Array.getElem?_eq_some_iff.1 hB4).1
  clear hm4 hA3 hB3 hM3 hr3_0 hr3_1 c3_6 d3_6 c3_7 d3_7
  go_wp2_with fail
  refine (eqValue_any x.start x.start _).mono ?_
  rintro e w5 ⟨rfl, hm5⟩
  rw [decide_eq_true rfl]
  have hM5 : Mod (fun _ => False) w w5 := hM4.thenNone hm5
  have hA5 := hm5.blk hA4 (fun f => f)
  have hB5 := hm5.blk hB4 (fun f => f)
  have c5_10 := blk_cell hA5 (j := 10) rfl
  have d5_10 := blk_cell hB5 (j := 10) rfl
  have c5_11 := blk_cell hA5 (j := 11) rfl
  have d5_11 := blk_cell hB5 (j := 11) rfl
  have hr5_0 : w.heap.size < w5.heap.size := (Array.getElem?_eq_some_iff.1 hA5).1
  have hr5_1 : w.heap.size + 1 < w5.heap.size := (Array.getElem?_eq_some_iff.1 hB5).1
  clear hm5 hA4 hB4 hM4 hr4_0 hr4_1 c4_8 d4_8 c4_9 d4_9
  go_wp2_with fail
  refine (eqValue_any x.stop x.stop _).mono ?_
  rintro e w6 ⟨rfl, hm6⟩
  rw [decide_eq_true rfl]
  have hM6 : Mod (fun _ => False) w w6 := hM5.thenNone hm6
  have hA6 := hm6.blk hA5 (fun f => f)
  have hB6 := hm6.blk hB5 (fun f => f)
  have hr6_0 : w.heap.size < w6.heap.size := (Array.getElem?_eq_some_iff.1 hA6).1
  have hr6_1 : w.heap.size + 1 < w6.heap.size := (Array.getElem?_eq_some_iff.1 hB6).1
  clear hm6 hA5 hB5 hM5 hr5_0 hr5_1 c5_10 d5_10 c5_11 d5_11
  clear hA6 hB6
  go_wp2
  go_ret
  exact ⟨rfl, hM6⟩

structure Edges where
  left : Int
  top : Int
  right : Int
  bottom : Int
  deriving DecidableEq, Inhabited
def Edges.cells (x : Edges) : List Value := [.int .i64 x.left, .int .i64 x.top, .int .i64 x.right, .int .i64 x.bottom]

set_option maxRecDepth 100000 in
set_option maxHeartbeats 8000000 in
theorem toEdges_any (x : Edges) (w : World) : Calls Tryz.prog 130 #[.agg #[.int .i64 x.left, .int .i64 x.top, .int .i64 x.right, .int .i64 x.bottom]] w fun e w' => e = .returned (.agg #[.int .i64 x.left, .int .i64 x.top, .int .i64 x.right, .int .i64 x.bottom]) ∧ Mod (fun _ => False) w w' := by
  go_enter Tryz.func130, Tryz.ntmps130
  go_wp2
  refine bodyPost_ret (v := .agg #[.int .i64 x.left, .int .i64 x.top, .int .i64 x.right, .int .i64 x.bottom]) (by simp [results, Tryz.results130, go_sem]) rfl ⟨rfl, by (repeat (first | with_reducible exact Mod.refl _ _ | with_reducible refine Mod.drewN ?_ _ | with_reducible refine Mod.drew ?_ | with_reducible refine Mod.alloc ?_ _ | ((with_reducible refine Mod.setNew ?_ ?_ _ _ _); (rotate_left; omega)) | with_reducible refine Mod.setAt ?_ _ _ _ ))⟩

set_option maxRecDepth 100000 in
set_option maxHeartbeats 8000000 in
theorem eqEdges_same (x : Edges) (w : World) : Calls Tryz.prog 138 #[.agg #[.int .i64 x.left, .int .i64 x.top, .int .i64 x.right, .int .i64 x.bottom], .agg #[.int .i64 x.left, .int .i64 x.top, .int .i64 x.right, .int .i64 x.bottom]] w fun e w' => e = .returned (.bool true) ∧ Mod (fun _ => False) w w' := by
  go_enter Tryz.func138, Tryz.ntmps138
  go_wp2
  go_ret
  exact ⟨rfl, by (repeat (first | with_reducible exact Mod.refl _ _ | with_reducible refine Mod.drewN ?_ _ | with_reducible refine Mod.drew ?_ | with_reducible refine Mod.alloc ?_ _ | ((with_reducible refine Mod.setNew ?_ ?_ _ _ _); (rotate_left; omega)) | with_reducible refine Mod.setAt ?_ _ _ _ ))⟩

structure Style where
  dir : Int
  wrap : Int
  justify : Int
  items : Int
  self : Int
  content : Int
  apart : Bool
  hidden : Bool
  order : Int
  grow : Int
  shrink : Int
  basis : Val
  width : Val
  height : Val
  minWidth : Val
  minHeight : Val
  maxWidth : Val
  maxHeight : Val
  ratio : Int
  margin : Sides
  inset : Sides
  pad : Edges
  border : Edges
  rowGap : Int
  colGap : Int
  deriving DecidableEq, Inhabited
def Style.cells (x : Style) : List Value := [.int .i64 x.dir, .int .i64 x.wrap, .int .i64 x.justify, .int .i64 x.items, .int .i64 x.self, .int .i64 x.content, .bool x.apart, .bool x.hidden, .int .i64 x.order, .int .i64 x.grow, .int .i64 x.shrink, .int .i64 x.basis.kind, .int .i64 x.basis.n, .int .i64 x.width.kind, .int .i64 x.width.n, .int .i64 x.height.kind, .int .i64 x.height.n, .int .i64 x.minWidth.kind, .int .i64 x.minWidth.n, .int .i64 x.minHeight.kind, .int .i64 x.minHeight.n, .int .i64 x.maxWidth.kind, .int .i64 x.maxWidth.n, .int .i64 x.maxHeight.kind, .int .i64 x.maxHeight.n, .int .i64 x.ratio, .int .i64 x.margin.left.kind, .int .i64 x.margin.left.n, .int .i64 x.margin.top.kind, .int .i64 x.margin.top.n, .int .i64 x.margin.right.kind, .int .i64 x.margin.right.n, .int .i64 x.margin.bottom.kind, .int .i64 x.margin.bottom.n, .int .i64 x.margin.start.kind, .int .i64 x.margin.start.n, .int .i64 x.margin.stop.kind, .int .i64 x.margin.stop.n, .int .i64 x.inset.left.kind, .int .i64 x.inset.left.n, .int .i64 x.inset.top.kind, .int .i64 x.inset.top.n, .int .i64 x.inset.right.kind, .int .i64 x.inset.right.n, .int .i64 x.inset.bottom.kind, .int .i64 x.inset.bottom.n, .int .i64 x.inset.start.kind, .int .i64 x.inset.start.n, .int .i64 x.inset.stop.kind, .int .i64 x.inset.stop.n, .int .i64 x.pad.left, .int .i64 x.pad.top, .int .i64 x.pad.right, .int .i64 x.pad.bottom, .int .i64 x.border.left, .int .i64 x.border.top, .int .i64 x.border.right, .int .i64 x.border.bottom, .int .i64 x.rowGap, .int .i64 x.colGap]

end Go.Proofs.YtpkpkojmaebflaaGreatDoor
namespace Go.Proofs.YtpkpkojmaebflaaGreatDoor
open Go.RowKit
set_option linter.unusedVariables false
set_option linter.unusedSimpArgs false

def valOk (v : Val) : Bool := if v.kind = 0 ∨ v.kind = 3 then decide (v.n = 0) else if v.kind = 1 then inB v.n (-1048576) 1048576 else if v.kind = 2 then inB v.n (-1000) 1000 else false
def sizeOk (v : Val) : Bool := valOk v && decide (0 ≤ v.n)
def edgesOk (x : Edges) : Bool := inB x.left 0 1048576 && inB x.top 0 1048576 && inB x.right 0 1048576 && inB x.bottom 0 1048576
def sidesOk (x : Sides) : Bool := valOk x.left && valOk x.top && valOk x.right && valOk x.bottom && valOk x.start && valOk x.stop

set_option maxRecDepth 100000 in
set_option maxHeartbeats 4000000 in
theorem valueOk_any (v : Val) (w : World) : Calls Tryz.prog 132 #[.agg #[.int .i64 v.kind, .int .i64 v.n]] w fun e w' => e = .returned (.bool (valOk v)) ∧ Mod (fun _ => False) w w' := by
  refine calls_sx Tryz.func132 rfl rfl (fun a h1 h2 h3 => ((Fr.nil h1 h2).arg (h3 0 _ rfl))) ?_
  by_cases k0 : v.kind = 0
  · have hv : valOk v = decide (v.n = 0) := if_pos (.inl k0)
    repeat (first | refine SX.seq ?_ | refine SXl.nil ?_ | refine SX.region ?_ | refine SQ.thenNormal ?_ | refine SX.block ?_ | refine SX.skip ?_ | refine SX.condT rfl ?_ | (refine l_load ?_; (refine SXl.v (OpW.load 0 rfl rfl rfl) rfl ?_ ?_ ?_); rfl; rfl) | (refine l_fieldAddr ?_; (refine SXl.v (OpW.fieldAddr rfl) rfl ?_ ?_ ?_); rfl; rfl) | (refine l_assign ?_; (refine SXl.v (OpW.assign rfl) rfl ?_ ?_ ?_); rfl; rfl) | (refine l_eql ?_; (first | refine SXl.v (OpW.eqlT rfl rfl (by omega)) rfl ?_ ?_ ?_ | refine SXl.v (OpW.eql rfl rfl) rfl ?_ ?_ ?_); rfl; rfl) | (refine l_box ?_; refine SXl.box ?_ ?_ rfl rfl (fun g => ?_); rfl; rfl) | refine SX.ret ?_ | refine SQ.thenRet ?_ | refine SQ.blockRet ?_)
    refine SQ.body1 rfl rfl (fun w' hl => ⟨ret_bool hv.symm, hl.mod⟩)
  · by_cases k3 : v.kind = 3
    · have hv : valOk v = decide (v.n = 0) := if_pos (.inr k3)
      repeat (first | refine SX.seq ?_ | refine SXl.nil ?_ | refine SX.region ?_ | refine SQ.thenNormal ?_ | refine SX.block ?_ | refine SX.condT rfl ?_ | refine SX.condF rfl ?_ | (refine l_load ?_; (refine SXl.v (OpW.load 0 rfl rfl rfl) rfl ?_ ?_ ?_); rfl; rfl) | (refine l_fieldAddr ?_; (refine SXl.v (OpW.fieldAddr rfl) rfl ?_ ?_ ?_); rfl; rfl) | (refine l_assign ?_; (refine SXl.v (OpW.assign rfl) rfl ?_ ?_ ?_); rfl; rfl) | (refine l_eql ?_; (first | refine SXl.v (OpW.eqlT rfl rfl (by omega)) rfl ?_ ?_ ?_ | refine SXl.v (OpW.eqlF rfl rfl (by omega)) rfl ?_ ?_ ?_ | refine SXl.v (OpW.eql rfl rfl) rfl ?_ ?_ ?_); rfl; rfl) | (refine l_box ?_; refine SXl.box ?_ ?_ rfl rfl (fun g => ?_); rfl; rfl) | refine SX.ret ?_ | refine SQ.thenRet ?_ | refine SQ.blockRet ?_)
      refine SQ.body1 rfl rfl (fun w' hl => ⟨ret_bool hv.symm, hl.mod⟩)
    · by_cases k1 : v.kind = 1
      · have hv : valOk v = inB v.n (-1048576) 1048576 := (if_neg (by omega)).trans (if_pos k1)
        repeat (first | refine SX.seq ?_ | refine SXl.nil ?_ | refine SX.region ?_ | refine SQ.thenNormal ?_ | refine SX.block ?_ | refine SX.condT rfl ?_ | refine SX.condF rfl ?_ | (refine l_call ?_; (refine SXl.v (OpW.calls rfl (fun w _ => in_any _ _ _ _)) rfl ?_ ?_ ?_); rfl; rfl) | (refine l_load ?_; (refine SXl.v (OpW.load 0 rfl rfl rfl) rfl ?_ ?_ ?_); rfl; rfl) | (refine l_fieldAddr ?_; (refine SXl.v (OpW.fieldAddr rfl) rfl ?_ ?_ ?_); rfl; rfl) | (refine l_assign ?_; (refine SXl.v (OpW.assign rfl) rfl ?_ ?_ ?_); rfl; rfl) | (refine l_eql ?_; (first | refine SXl.v (OpW.eqlT rfl rfl (by omega)) rfl ?_ ?_ ?_ | refine SXl.v (OpW.eqlF rfl rfl (by omega)) rfl ?_ ?_ ?_); rfl; rfl) | (refine l_box ?_; refine SXl.box ?_ ?_ rfl rfl (fun g => ?_); rfl; rfl) | refine SX.ret ?_ | refine SQ.thenRet ?_ | refine SQ.blockRet ?_)
        refine SQ.body1 rfl rfl (fun w' hl => ⟨ret_bool hv.symm, hl.mod⟩)
      · by_cases k2 : v.kind = 2
        · have hv : valOk v = inB v.n (-1000) 1000 := (if_neg (by omega)).trans ((if_neg k1).trans (if_pos k2))
          repeat (first | refine SX.seq ?_ | refine SXl.nil ?_ | refine SX.region ?_ | refine SQ.thenNormal ?_ | refine SX.block ?_ | refine SX.condT rfl ?_ | refine SX.condF rfl ?_ | (refine l_call ?_; (refine SXl.v (OpW.calls rfl (fun w _ => in_any _ _ _ _)) rfl ?_ ?_ ?_); rfl; rfl) | (refine l_load ?_; (refine SXl.v (OpW.load 0 rfl rfl rfl) rfl ?_ ?_ ?_); rfl; rfl) | (refine l_fieldAddr ?_; (refine SXl.v (OpW.fieldAddr rfl) rfl ?_ ?_ ?_); rfl; rfl) | (refine l_assign ?_; (refine SXl.v (OpW.assign rfl) rfl ?_ ?_ ?_); rfl; rfl) | (refine l_eql ?_; (first | refine SXl.v (OpW.eqlT rfl rfl (by omega)) rfl ?_ ?_ ?_ | refine SXl.v (OpW.eqlF rfl rfl (by omega)) rfl ?_ ?_ ?_); rfl; rfl) | (refine l_box ?_; refine SXl.box ?_ ?_ rfl rfl (fun g => ?_); rfl; rfl) | refine SX.ret ?_ | refine SQ.thenRet ?_ | refine SQ.blockRet ?_)
          refine SQ.body1 rfl rfl (fun w' hl => ⟨ret_bool hv.symm, hl.mod⟩)
        · have hv : valOk v = false := (if_neg (by omega)).trans ((if_neg k1).trans (if_neg k2))
          repeat (first | refine SX.seq ?_ | refine SXl.nil ?_ | refine SX.region ?_ | refine SQ.thenNormal ?_ | refine SX.block ?_ | refine SX.skip ?_ | refine SX.condF rfl ?_ | (refine l_load ?_; (refine SXl.v (OpW.load 0 rfl rfl rfl) rfl ?_ ?_ ?_); rfl; rfl) | (refine l_fieldAddr ?_; (refine SXl.v (OpW.fieldAddr rfl) rfl ?_ ?_ ?_); rfl; rfl) | (refine l_assign ?_; (refine SXl.v (OpW.assign rfl) rfl ?_ ?_ ?_); rfl; rfl) | (refine l_eql ?_; (refine SXl.v (OpW.eqlF rfl rfl (by omega)) rfl ?_ ?_ ?_); rfl; rfl) | (refine l_box ?_; refine SXl.box ?_ ?_ rfl rfl (fun g => ?_); rfl; rfl) | refine SX.ret ?_ | refine SQ.blockNormal ?_)
          refine SQ.body1 rfl rfl (fun w' hl => ⟨ret_bool hv.symm, hl.mod⟩)

set_option maxRecDepth 100000 in
set_option maxHeartbeats 4000000 in
theorem sizeOk_any (v : Val) (w : World) : Calls Tryz.prog 111 #[.agg #[.int .i64 v.kind, .int .i64 v.n]] w fun e w' => e = .returned (.bool (sizeOk v)) ∧ Mod (fun _ => False) w w' := by
  refine calls_sx Tryz.func111 rfl rfl (fun a h1 h2 h3 => ((Fr.nil h1 h2).arg (h3 0 _ rfl))) ?_
  cases q0 : valOk v
  · have hv : sizeOk v = false := by simp [sizeOk, q0]
    repeat (first | refine SX.seq ?_ | refine SXl.nil ?_ | refine SX.region ?_ | refine SQ.thenNormal ?_ | (refine SXl.no rfl rfl rfl ?_) | (refine l_call ?_; (refine SXl.v (OpW.call rfl (fun w hl => valueOk_any v _)) rfl ?_ ?_ ?_); rfl; rfl) | (refine l_load ?_; (refine SXl.v (OpW.loadAll 0 rfl rfl rfl) rfl ?_ ?_ ?_); rfl; rfl) | (refine l_move ?_; (refine SXl.v (OpW.move rfl) rfl ?_ ?_ ?_); rfl; rfl) | (refine l_assign ?_; (refine SXl.v (OpW.assign rfl) rfl ?_ ?_ ?_); rfl; rfl) | (refine l_pick ?_; (refine SXl.v (OpW.pick rfl rfl rfl) rfl ?_ ?_ ?_); rfl; rfl) | (refine l_box ?_; refine SXl.box ?_ ?_ rfl rfl (fun g => ?_); rfl; rfl) | (rw [q0]) | refine SX.ret ?_)
    refine SQ.body1 rfl rfl (fun w' hl => ⟨ret_bool hv.symm, hl.mod⟩)
  · have hv : sizeOk v = decide (0 ≤ v.n) := by simp [sizeOk, q0]
    repeat (first | refine SX.seq ?_ | refine SXl.nil ?_ | refine SX.region ?_ | refine SQ.thenNormal ?_ | (refine l_call ?_; (refine SXl.v (OpW.call rfl (fun w hl => valueOk_any v _)) rfl ?_ ?_ ?_); rfl; rfl) | (refine l_load ?_; (first | refine SXl.v (OpW.load 0 rfl rfl rfl) rfl ?_ ?_ ?_ | refine SXl.v (OpW.loadAll 0 rfl rfl rfl) rfl ?_ ?_ ?_); rfl; rfl) | (refine l_fieldAddr ?_; (refine SXl.v (OpW.fieldAddr rfl) rfl ?_ ?_ ?_); rfl; rfl) | (refine l_move ?_; (refine SXl.v (OpW.move rfl) rfl ?_ ?_ ?_); rfl; rfl) | (refine l_assign ?_; (refine SXl.v (OpW.assign rfl) rfl ?_ ?_ ?_); rfl; rfl) | (refine l_geq ?_; (refine SXl.v (OpW.geq rfl rfl) rfl ?_ ?_ ?_); rfl; rfl) | (refine l_pick ?_; (refine SXl.v (OpW.pick rfl rfl rfl) rfl ?_ ?_ ?_); rfl; rfl) | (refine l_box ?_; refine SXl.box ?_ ?_ rfl rfl (fun g => ?_); rfl; rfl) | (rw [q0]) | refine SX.ret ?_)
    refine SQ.body1 rfl rfl (fun w' hl => ⟨ret_bool hv.symm, hl.mod⟩)

set_option maxRecDepth 100000 in
set_option maxHeartbeats 4000000 in
theorem edgesOk_any (x : Edges) (w : World) : Calls Tryz.prog 113 #[.agg #[.int .i64 x.left, .int .i64 x.top, .int .i64 x.right, .int .i64 x.bottom]] w fun e w' => e = .returned (.bool (edgesOk x)) ∧ Mod (fun _ => False) w w' := by
  refine calls_sx Tryz.func113 rfl rfl (fun a h1 h2 h3 => ((Fr.nil h1 h2).arg (h3 0 _ rfl))) ?_
  cases q0 : inB x.left 0 1048576
  · have hv : edgesOk x = false := by simp [edgesOk, q0]
    repeat (first | refine SX.seq ?_ | refine SXl.nil ?_ | refine SX.region ?_ | refine SQ.thenNormal ?_ | (refine SXl.no rfl rfl rfl ?_) | (refine l_call ?_; (refine SXl.v (OpW.calls rfl (fun w _ => in_any _ _ _ _)) rfl ?_ ?_ ?_); rfl; rfl) | (refine l_load ?_; (refine SXl.v (OpW.load 0 rfl rfl rfl) rfl ?_ ?_ ?_); rfl; rfl) | (refine l_fieldAddr ?_; (refine SXl.v (OpW.fieldAddr rfl) rfl ?_ ?_ ?_); rfl; rfl) | (refine l_move ?_; (refine SXl.v (OpW.move rfl) rfl ?_ ?_ ?_); rfl; rfl) | (refine l_assign ?_; (refine SXl.v (OpW.assign rfl) rfl ?_ ?_ ?_); rfl; rfl) | (refine l_pick ?_; (refine SXl.v (OpW.pick rfl rfl rfl) rfl ?_ ?_ ?_); rfl; rfl) | (refine l_box ?_; refine SXl.box ?_ ?_ rfl rfl (fun g => ?_); rfl; rfl) | (rw [q0]) | refine SX.ret ?_)
    refine SQ.body1 rfl rfl (fun w' hl => ⟨ret_bool hv.symm, hl.mod⟩)
  cases q1 : inB x.top 0 1048576
  · have hv : edgesOk x = false := by simp [edgesOk, q0, q1]
    repeat (first | refine SX.seq ?_ | refine SXl.nil ?_ | refine SX.region ?_ | refine SQ.thenNormal ?_ | (refine SXl.no rfl rfl rfl ?_) | (refine l_call ?_; (refine SXl.v (OpW.calls rfl (fun w _ => in_any _ _ _ _)) rfl ?_ ?_ ?_); rfl; rfl) | (refine l_load ?_; (refine SXl.v (OpW.load 0 rfl rfl rfl) rfl ?_ ?_ ?_); rfl; rfl) | (refine l_fieldAddr ?_; (refine SXl.v (OpW.fieldAddr rfl) rfl ?_ ?_ ?_); rfl; rfl) | (refine l_move ?_; (refine SXl.v (OpW.move rfl) rfl ?_ ?_ ?_); rfl; rfl) | (refine l_assign ?_; (refine SXl.v (OpW.assign rfl) rfl ?_ ?_ ?_); rfl; rfl) | (refine l_pick ?_; (refine SXl.v (OpW.pick rfl rfl rfl) rfl ?_ ?_ ?_); rfl; rfl) | (refine l_box ?_; refine SXl.box ?_ ?_ rfl rfl (fun g => ?_); rfl; rfl) | ((first | rw [q0] | rw [q1])) | refine SX.ret ?_)
    refine SQ.body1 rfl rfl (fun w' hl => ⟨ret_bool hv.symm, hl.mod⟩)
  cases q2 : inB x.right 0 1048576
  · have hv : edgesOk x = false := by simp [edgesOk, q0, q1, q2]
    repeat (first | refine SX.seq ?_ | refine SXl.nil ?_ | refine SX.region ?_ | refine SQ.thenNormal ?_ | (refine SXl.no rfl rfl rfl ?_) | (refine l_call ?_; (refine SXl.v (OpW.calls rfl (fun w _ => in_any _ _ _ _)) rfl ?_ ?_ ?_); rfl; rfl) | (refine l_load ?_; (refine SXl.v (OpW.load 0 rfl rfl rfl) rfl ?_ ?_ ?_); rfl; rfl) | (refine l_fieldAddr ?_; (refine SXl.v (OpW.fieldAddr rfl) rfl ?_ ?_ ?_); rfl; rfl) | (refine l_move ?_; (refine SXl.v (OpW.move rfl) rfl ?_ ?_ ?_); rfl; rfl) | (refine l_assign ?_; (refine SXl.v (OpW.assign rfl) rfl ?_ ?_ ?_); rfl; rfl) | (refine l_pick ?_; (refine SXl.v (OpW.pick rfl rfl rfl) rfl ?_ ?_ ?_); rfl; rfl) | (refine l_box ?_; refine SXl.box ?_ ?_ rfl rfl (fun g => ?_); rfl; rfl) | ((first | rw [q0] | rw [q1] | rw [q2])) | refine SX.ret ?_)
    refine SQ.body1 rfl rfl (fun w' hl => ⟨ret_bool hv.symm, hl.mod⟩)
  cases q3 : inB x.bottom 0 1048576
  · have hv : edgesOk x = false := by simp [edgesOk, q0, q1, q2, q3]
    repeat (first | refine SX.seq ?_ | refine SXl.nil ?_ | refine SX.region ?_ | refine SQ.thenNormal ?_ | (refine l_call ?_; (refine SXl.v (OpW.calls rfl (fun w _ => in_any _ _ _ _)) rfl ?_ ?_ ?_); rfl; rfl) | (refine l_load ?_; (refine SXl.v (OpW.load 0 rfl rfl rfl) rfl ?_ ?_ ?_); rfl; rfl) | (refine l_fieldAddr ?_; (refine SXl.v (OpW.fieldAddr rfl) rfl ?_ ?_ ?_); rfl; rfl) | (refine l_move ?_; (refine SXl.v (OpW.move rfl) rfl ?_ ?_ ?_); rfl; rfl) | (refine l_assign ?_; (refine SXl.v (OpW.assign rfl) rfl ?_ ?_ ?_); rfl; rfl) | (refine l_pick ?_; (refine SXl.v (OpW.pick rfl rfl rfl) rfl ?_ ?_ ?_); rfl; rfl) | (refine l_box ?_; refine SXl.box ?_ ?_ rfl rfl (fun g => ?_); rfl; rfl) | ((first | rw [q0] | rw [q1] | rw [q2] | rw [q3])) | refine SX.ret ?_)
    refine SQ.body1 rfl rfl (fun w' hl => ⟨ret_bool hv.symm, hl.mod⟩)
  have hv : edgesOk x = true := by simp [edgesOk, q0, q1, q2, q3]
  repeat (first | refine SX.seq ?_ | refine SXl.nil ?_ | refine SX.region ?_ | refine SQ.thenNormal ?_ | (refine l_call ?_; (refine SXl.v (OpW.calls rfl (fun w _ => in_any _ _ _ _)) rfl ?_ ?_ ?_); rfl; rfl) | (refine l_load ?_; (refine SXl.v (OpW.load 0 rfl rfl rfl) rfl ?_ ?_ ?_); rfl; rfl) | (refine l_fieldAddr ?_; (refine SXl.v (OpW.fieldAddr rfl) rfl ?_ ?_ ?_); rfl; rfl) | (refine l_move ?_; (refine SXl.v (OpW.move rfl) rfl ?_ ?_ ?_); rfl; rfl) | (refine l_assign ?_; (refine SXl.v (OpW.assign rfl) rfl ?_ ?_ ?_); rfl; rfl) | (refine l_pick ?_; (refine SXl.v (OpW.pick rfl rfl rfl) rfl ?_ ?_ ?_); rfl; rfl) | (refine l_box ?_; refine SXl.box ?_ ?_ rfl rfl (fun g => ?_); rfl; rfl) | ((first | rw [q0] | rw [q1] | rw [q2] | rw [q3])) | refine SX.ret ?_)
  refine SQ.body1 rfl rfl (fun w' hl => ⟨ret_bool hv.symm, hl.mod⟩)

set_option maxRecDepth 100000 in
set_option maxHeartbeats 4000000 in
theorem sidesOk_any (x : Sides) (w : World) : Calls Tryz.prog 112 #[.agg #[.int .i64 x.left.kind, .int .i64 x.left.n, .int .i64 x.top.kind, .int .i64 x.top.n, .int .i64 x.right.kind, .int .i64 x.right.n, .int .i64 x.bottom.kind, .int .i64 x.bottom.n, .int .i64 x.start.kind, .int .i64 x.start.n, .int .i64 x.stop.kind, .int .i64 x.stop.n]] w fun e w' => e = .returned (.bool (sidesOk x)) ∧ Mod (fun _ => False) w w' := by
  refine calls_sx Tryz.func112 rfl rfl (fun a h1 h2 h3 => ((Fr.nil h1 h2).arg (h3 0 _ rfl))) ?_
  cases q0 : valOk x.left
  · have hv : sidesOk x = false := by simp [sidesOk, q0]
    repeat (first | refine SX.seq ?_ | refine SXl.nil ?_ | refine SX.region ?_ | refine SQ.thenNormal ?_ | (refine SXl.no rfl rfl rfl ?_) | (refine l_call ?_; (refine SXl.v (OpW.call rfl (fun w hl => valueOk_any _ _)) rfl ?_ ?_ ?_); rfl; rfl) | (refine l_load ?_; (refine SXl.v (OpW.loadRow 0 rfl rfl rfl rfl) rfl ?_ ?_ ?_); rfl; rfl) | (refine l_fieldAddr ?_; (refine SXl.v (OpW.fieldAddr rfl) rfl ?_ ?_ ?_); rfl; rfl) | (refine l_move ?_; (refine SXl.v (OpW.move rfl) rfl ?_ ?_ ?_); rfl; rfl) | (refine l_assign ?_; (refine SXl.v (OpW.assign rfl) rfl ?_ ?_ ?_); rfl; rfl) | (refine l_pick ?_; (refine SXl.v (OpW.pick rfl rfl rfl) rfl ?_ ?_ ?_); rfl; rfl) | (refine l_box ?_; refine SXl.box ?_ ?_ rfl rfl (fun g => ?_); rfl; rfl) | (rw [q0]) | refine SX.ret ?_)
    refine SQ.body1 rfl rfl (fun w' hl => ⟨ret_bool hv.symm, hl.mod⟩)
  cases q1 : valOk x.top
  · have hv : sidesOk x = false := by simp [sidesOk, q0, q1]
    repeat (first | refine SX.seq ?_ | refine SXl.nil ?_ | refine SX.region ?_ | refine SQ.thenNormal ?_ | (refine SXl.no rfl rfl rfl ?_) | (refine l_call ?_; (refine SXl.v (OpW.call rfl (fun w hl => valueOk_any _ _)) rfl ?_ ?_ ?_); rfl; rfl) | (refine l_load ?_; (refine SXl.v (OpW.loadRow 0 rfl rfl rfl rfl) rfl ?_ ?_ ?_); rfl; rfl) | (refine l_fieldAddr ?_; (refine SXl.v (OpW.fieldAddr rfl) rfl ?_ ?_ ?_); rfl; rfl) | (refine l_move ?_; (refine SXl.v (OpW.move rfl) rfl ?_ ?_ ?_); rfl; rfl) | (refine l_assign ?_; (refine SXl.v (OpW.assign rfl) rfl ?_ ?_ ?_); rfl; rfl) | (refine l_pick ?_; (refine SXl.v (OpW.pick rfl rfl rfl) rfl ?_ ?_ ?_); rfl; rfl) | (refine l_box ?_; refine SXl.box ?_ ?_ rfl rfl (fun g => ?_); rfl; rfl) | ((first | rw [q0] | rw [q1])) | refine SX.ret ?_)
    refine SQ.body1 rfl rfl (fun w' hl => ⟨ret_bool hv.symm, hl.mod⟩)
  cases q2 : valOk x.right
  · have hv : sidesOk x = false := by simp [sidesOk, q0, q1, q2]
    repeat (first | refine SX.seq ?_ | refine SXl.nil ?_ | refine SX.region ?_ | refine SQ.thenNormal ?_ | (refine SXl.no rfl rfl rfl ?_) | (refine l_call ?_; (refine SXl.v (OpW.call rfl (fun w hl => valueOk_any _ _)) rfl ?_ ?_ ?_); rfl; rfl) | (refine l_load ?_; (refine SXl.v (OpW.loadRow 0 rfl rfl rfl rfl) rfl ?_ ?_ ?_); rfl; rfl) | (refine l_fieldAddr ?_; (refine SXl.v (OpW.fieldAddr rfl) rfl ?_ ?_ ?_); rfl; rfl) | (refine l_move ?_; (refine SXl.v (OpW.move rfl) rfl ?_ ?_ ?_); rfl; rfl) | (refine l_assign ?_; (refine SXl.v (OpW.assign rfl) rfl ?_ ?_ ?_); rfl; rfl) | (refine l_pick ?_; (refine SXl.v (OpW.pick rfl rfl rfl) rfl ?_ ?_ ?_); rfl; rfl) | (refine l_box ?_; refine SXl.box ?_ ?_ rfl rfl (fun g => ?_); rfl; rfl) | ((first | rw [q0] | rw [q1] | rw [q2])) | refine SX.ret ?_)
    refine SQ.body1 rfl rfl (fun w' hl => ⟨ret_bool hv.symm, hl.mod⟩)
  cases q3 : valOk x.bottom
  · have hv : sidesOk x = false := by simp [sidesOk, q0, q1, q2, q3]
    repeat (first | refine SX.seq ?_ | refine SXl.nil ?_ | refine SX.region ?_ | refine SQ.thenNormal ?_ | (refine SXl.no rfl rfl rfl ?_) | (refine l_call ?_; (refine SXl.v (OpW.call rfl (fun w hl => valueOk_any _ _)) rfl ?_ ?_ ?_); rfl; rfl) | (refine l_load ?_; (refine SXl.v (OpW.loadRow 0 rfl rfl rfl rfl) rfl ?_ ?_ ?_); rfl; rfl) | (refine l_fieldAddr ?_; (refine SXl.v (OpW.fieldAddr rfl) rfl ?_ ?_ ?_); rfl; rfl) | (refine l_move ?_; (refine SXl.v (OpW.move rfl) rfl ?_ ?_ ?_); rfl; rfl) | (refine l_assign ?_; (refine SXl.v (OpW.assign rfl) rfl ?_ ?_ ?_); rfl; rfl) | (refine l_pick ?_; (refine SXl.v (OpW.pick rfl rfl rfl) rfl ?_ ?_ ?_); rfl; rfl) | (refine l_box ?_; refine SXl.box ?_ ?_ rfl rfl (fun g => ?_); rfl; rfl) | ((first | rw [q0] | rw [q1] | rw [q2] | rw [q3])) | refine SX.ret ?_)
    refine SQ.body1 rfl rfl (fun w' hl => ⟨ret_bool hv.symm, hl.mod⟩)
  cases q4 : valOk x.start
  · have hv : sidesOk x = false := by simp [sidesOk, q0, q1, q2, q3, q4]
    repeat (first | refine SX.seq ?_ | refine SXl.nil ?_ | refine SX.region ?_ | refine SQ.thenNormal ?_ | (refine SXl.no rfl rfl rfl ?_) | (refine l_call ?_; (refine SXl.v (OpW.call rfl (fun w hl => valueOk_any _ _)) rfl ?_ ?_ ?_); rfl; rfl) | (refine l_load ?_; (refine SXl.v (OpW.loadRow 0 rfl rfl rfl rfl) rfl ?_ ?_ ?_); rfl; rfl) | (refine l_fieldAddr ?_; (refine SXl.v (OpW.fieldAddr rfl) rfl ?_ ?_ ?_); rfl; rfl) | (refine l_move ?_; (refine SXl.v (OpW.move rfl) rfl ?_ ?_ ?_); rfl; rfl) | (refine l_assign ?_; (refine SXl.v (OpW.assign rfl) rfl ?_ ?_ ?_); rfl; rfl) | (refine l_pick ?_; (refine SXl.v (OpW.pick rfl rfl rfl) rfl ?_ ?_ ?_); rfl; rfl) | (refine l_box ?_; refine SXl.box ?_ ?_ rfl rfl (fun g => ?_); rfl; rfl) | ((first | rw [q0] | rw [q1] | rw [q2] | rw [q3] | rw [q4])) | refine SX.ret ?_)
    refine SQ.body1 rfl rfl (fun w' hl => ⟨ret_bool hv.symm, hl.mod⟩)
  cases q5 : valOk x.stop
  · have hv : sidesOk x = false := by simp [sidesOk, q0, q1, q2, q3, q4, q5]
    repeat (first | refine SX.seq ?_ | refine SXl.nil ?_ | refine SX.region ?_ | refine SQ.thenNormal ?_ | (refine l_call ?_; (refine SXl.v (OpW.call rfl (fun w hl => valueOk_any _ _)) rfl ?_ ?_ ?_); rfl; rfl) | (refine l_load ?_; (refine SXl.v (OpW.loadRow 0 rfl rfl rfl rfl) rfl ?_ ?_ ?_); rfl; rfl) | (refine l_fieldAddr ?_; (refine SXl.v (OpW.fieldAddr rfl) rfl ?_ ?_ ?_); rfl; rfl) | (refine l_move ?_; (refine SXl.v (OpW.move rfl) rfl ?_ ?_ ?_); rfl; rfl) | (refine l_assign ?_; (refine SXl.v (OpW.assign rfl) rfl ?_ ?_ ?_); rfl; rfl) | (refine l_pick ?_; (refine SXl.v (OpW.pick rfl rfl rfl) rfl ?_ ?_ ?_); rfl; rfl) | (refine l_box ?_; refine SXl.box ?_ ?_ rfl rfl (fun g => ?_); rfl; rfl) | ((first | rw [q0] | rw [q1] | rw [q2] | rw [q3] | rw [q4] | rw [q5])) | refine SX.ret ?_)
    refine SQ.body1 rfl rfl (fun w' hl => ⟨ret_bool hv.symm, hl.mod⟩)
  have hv : sidesOk x = true := by simp [sidesOk, q0, q1, q2, q3, q4, q5]
  repeat (first | refine SX.seq ?_ | refine SXl.nil ?_ | refine SX.region ?_ | refine SQ.thenNormal ?_ | (refine l_call ?_; (refine SXl.v (OpW.call rfl (fun w hl => valueOk_any _ _)) rfl ?_ ?_ ?_); rfl; rfl) | (refine l_load ?_; (refine SXl.v (OpW.loadRow 0 rfl rfl rfl rfl) rfl ?_ ?_ ?_); rfl; rfl) | (refine l_fieldAddr ?_; (refine SXl.v (OpW.fieldAddr rfl) rfl ?_ ?_ ?_); rfl; rfl) | (refine l_move ?_; (refine SXl.v (OpW.move rfl) rfl ?_ ?_ ?_); rfl; rfl) | (refine l_assign ?_; (refine SXl.v (OpW.assign rfl) rfl ?_ ?_ ?_); rfl; rfl) | (refine l_pick ?_; (refine SXl.v (OpW.pick rfl rfl rfl) rfl ?_ ?_ ?_); rfl; rfl) | (refine l_box ?_; refine SXl.box ?_ ?_ rfl rfl (fun g => ?_); rfl; rfl) | ((first | rw [q0] | rw [q1] | rw [q2] | rw [q3] | rw [q4] | rw [q5])) | refine SX.ret ?_)
  refine SQ.body1 rfl rfl (fun w' hl => ⟨ret_bool hv.symm, hl.mod⟩)

set_option maxRecDepth 100000 in
set_option maxHeartbeats 4000000 in
theorem svalueOk_any (v : Val) (w : World) : Calls Tryz.prog 127 #[.agg #[.int .i64 v.kind, .int .i64 v.n]] w fun e w' => e = .returned (.bool (valOk v)) ∧ Mod (fun _ => False) w w' := by
  refine calls_sx Tryz.func127 rfl rfl (fun a h1 h2 h3 => ((Fr.nil h1 h2).arg (h3 0 _ rfl))) ?_
  by_cases k0 : v.kind = 0
  · have hv : valOk v = decide (v.n = 0) := if_pos (.inl k0)
    repeat (first | refine SX.seq ?_ | refine SXl.nil ?_ | refine SX.region ?_ | refine SQ.thenNormal ?_ | refine SX.block ?_ | refine SX.skip ?_ | refine SX.condT rfl ?_ | (refine l_load ?_; (refine SXl.v (OpW.load 0 rfl rfl rfl) rfl ?_ ?_ ?_); rfl; rfl) | (refine l_fieldAddr ?_; (refine SXl.v (OpW.fieldAddr rfl) rfl ?_ ?_ ?_); rfl; rfl) | (refine l_assign ?_; (refine SXl.v (OpW.assign rfl) rfl ?_ ?_ ?_); rfl; rfl) | (refine l_eql ?_; (first | refine SXl.v (OpW.eqlT rfl rfl (by omega)) rfl ?_ ?_ ?_ | refine SXl.v (OpW.eql rfl rfl) rfl ?_ ?_ ?_); rfl; rfl) | (refine l_box ?_; refine SXl.box ?_ ?_ rfl rfl (fun g => ?_); rfl; rfl) | refine SX.ret ?_ | refine SQ.thenRet ?_ | refine SQ.blockRet ?_)
    refine SQ.body1 rfl rfl (fun w' hl => ⟨ret_bool hv.symm, hl.mod⟩)
  · by_cases k3 : v.kind = 3
    · have hv : valOk v = decide (v.n = 0) := if_pos (.inr k3)
      repeat (first | refine SX.seq ?_ | refine SXl.nil ?_ | refine SX.region ?_ | refine SQ.thenNormal ?_ | refine SX.block ?_ | refine SX.condT rfl ?_ | refine SX.condF rfl ?_ | (refine l_load ?_; (refine SXl.v (OpW.load 0 rfl rfl rfl) rfl ?_ ?_ ?_); rfl; rfl) | (refine l_fieldAddr ?_; (refine SXl.v (OpW.fieldAddr rfl) rfl ?_ ?_ ?_); rfl; rfl) | (refine l_assign ?_; (refine SXl.v (OpW.assign rfl) rfl ?_ ?_ ?_); rfl; rfl) | (refine l_eql ?_; (first | refine SXl.v (OpW.eqlT rfl rfl (by omega)) rfl ?_ ?_ ?_ | refine SXl.v (OpW.eqlF rfl rfl (by omega)) rfl ?_ ?_ ?_ | refine SXl.v (OpW.eql rfl rfl) rfl ?_ ?_ ?_); rfl; rfl) | (refine l_box ?_; refine SXl.box ?_ ?_ rfl rfl (fun g => ?_); rfl; rfl) | refine SX.ret ?_ | refine SQ.thenRet ?_ | refine SQ.blockRet ?_)
      refine SQ.body1 rfl rfl (fun w' hl => ⟨ret_bool hv.symm, hl.mod⟩)
    · by_cases k1 : v.kind = 1
      · have hv : valOk v = inB v.n (-1048576) 1048576 := (if_neg (by omega)).trans (if_pos k1)
        repeat (first | refine SX.seq ?_ | refine SXl.nil ?_ | refine SX.region ?_ | refine SQ.thenNormal ?_ | refine SX.block ?_ | refine SX.condT rfl ?_ | refine SX.condF rfl ?_ | (refine l_call ?_; (refine SXl.v (OpW.calls rfl (fun w _ => l01In_any _ _ _ _)) rfl ?_ ?_ ?_); rfl; rfl) | (refine l_load ?_; (refine SXl.v (OpW.load 0 rfl rfl rfl) rfl ?_ ?_ ?_); rfl; rfl) | (refine l_fieldAddr ?_; (refine SXl.v (OpW.fieldAddr rfl) rfl ?_ ?_ ?_); rfl; rfl) | (refine l_assign ?_; (refine SXl.v (OpW.assign rfl) rfl ?_ ?_ ?_); rfl; rfl) | (refine l_eql ?_; (first | refine SXl.v (OpW.eqlT rfl rfl (by omega)) rfl ?_ ?_ ?_ | refine SXl.v (OpW.eqlF rfl rfl (by omega)) rfl ?_ ?_ ?_); rfl; rfl) | (refine l_box ?_; refine SXl.box ?_ ?_ rfl rfl (fun g => ?_); rfl; rfl) | refine SX.ret ?_ | refine SQ.thenRet ?_ | refine SQ.blockRet ?_)
        refine SQ.body1 rfl rfl (fun w' hl => ⟨ret_bool hv.symm, hl.mod⟩)
      · by_cases k2 : v.kind = 2
        · have hv : valOk v = inB v.n (-1000) 1000 := (if_neg (by omega)).trans ((if_neg k1).trans (if_pos k2))
          repeat (first | refine SX.seq ?_ | refine SXl.nil ?_ | refine SX.region ?_ | refine SQ.thenNormal ?_ | refine SX.block ?_ | refine SX.condT rfl ?_ | refine SX.condF rfl ?_ | (refine l_call ?_; (refine SXl.v (OpW.calls rfl (fun w _ => l01In_any _ _ _ _)) rfl ?_ ?_ ?_); rfl; rfl) | (refine l_load ?_; (refine SXl.v (OpW.load 0 rfl rfl rfl) rfl ?_ ?_ ?_); rfl; rfl) | (refine l_fieldAddr ?_; (refine SXl.v (OpW.fieldAddr rfl) rfl ?_ ?_ ?_); rfl; rfl) | (refine l_assign ?_; (refine SXl.v (OpW.assign rfl) rfl ?_ ?_ ?_); rfl; rfl) | (refine l_eql ?_; (first | refine SXl.v (OpW.eqlT rfl rfl (by omega)) rfl ?_ ?_ ?_ | refine SXl.v (OpW.eqlF rfl rfl (by omega)) rfl ?_ ?_ ?_); rfl; rfl) | (refine l_box ?_; refine SXl.box ?_ ?_ rfl rfl (fun g => ?_); rfl; rfl) | refine SX.ret ?_ | refine SQ.thenRet ?_ | refine SQ.blockRet ?_)
          refine SQ.body1 rfl rfl (fun w' hl => ⟨ret_bool hv.symm, hl.mod⟩)
        · have hv : valOk v = false := (if_neg (by omega)).trans ((if_neg k1).trans (if_neg k2))
          repeat (first | refine SX.seq ?_ | refine SXl.nil ?_ | refine SX.region ?_ | refine SQ.thenNormal ?_ | refine SX.block ?_ | refine SX.skip ?_ | refine SX.condF rfl ?_ | (refine l_load ?_; (refine SXl.v (OpW.load 0 rfl rfl rfl) rfl ?_ ?_ ?_); rfl; rfl) | (refine l_fieldAddr ?_; (refine SXl.v (OpW.fieldAddr rfl) rfl ?_ ?_ ?_); rfl; rfl) | (refine l_assign ?_; (refine SXl.v (OpW.assign rfl) rfl ?_ ?_ ?_); rfl; rfl) | (refine l_eql ?_; (refine SXl.v (OpW.eqlF rfl rfl (by omega)) rfl ?_ ?_ ?_); rfl; rfl) | (refine l_box ?_; refine SXl.box ?_ ?_ rfl rfl (fun g => ?_); rfl; rfl) | refine SX.ret ?_ | refine SQ.blockNormal ?_)
          refine SQ.body1 rfl rfl (fun w' hl => ⟨ret_bool hv.symm, hl.mod⟩)

set_option maxRecDepth 100000 in
set_option maxHeartbeats 4000000 in
theorem ssizeOk_any (v : Val) (w : World) : Calls Tryz.prog 102 #[.agg #[.int .i64 v.kind, .int .i64 v.n]] w fun e w' => e = .returned (.bool (sizeOk v)) ∧ Mod (fun _ => False) w w' := by
  refine calls_sx Tryz.func102 rfl rfl (fun a h1 h2 h3 => ((Fr.nil h1 h2).arg (h3 0 _ rfl))) ?_
  cases q0 : valOk v
  · have hv : sizeOk v = false := by simp [sizeOk, q0]
    repeat (first | refine SX.seq ?_ | refine SXl.nil ?_ | refine SX.region ?_ | refine SQ.thenNormal ?_ | (refine SXl.no rfl rfl rfl ?_) | (refine l_call ?_; (refine SXl.v (OpW.call rfl (fun w hl => svalueOk_any v _)) rfl ?_ ?_ ?_); rfl; rfl) | (refine l_load ?_; (refine SXl.v (OpW.loadAll 0 rfl rfl rfl) rfl ?_ ?_ ?_); rfl; rfl) | (refine l_move ?_; (refine SXl.v (OpW.move rfl) rfl ?_ ?_ ?_); rfl; rfl) | (refine l_assign ?_; (refine SXl.v (OpW.assign rfl) rfl ?_ ?_ ?_); rfl; rfl) | (refine l_pick ?_; (refine SXl.v (OpW.pick rfl rfl rfl) rfl ?_ ?_ ?_); rfl; rfl) | (refine l_box ?_; refine SXl.box ?_ ?_ rfl rfl (fun g => ?_); rfl; rfl) | (rw [q0]) | refine SX.ret ?_)
    refine SQ.body1 rfl rfl (fun w' hl => ⟨ret_bool hv.symm, hl.mod⟩)
  · have hv : sizeOk v = decide (0 ≤ v.n) := by simp [sizeOk, q0]
    repeat (first | refine SX.seq ?_ | refine SXl.nil ?_ | refine SX.region ?_ | refine SQ.thenNormal ?_ | (refine l_call ?_; (refine SXl.v (OpW.call rfl (fun w hl => svalueOk_any v _)) rfl ?_ ?_ ?_); rfl; rfl) | (refine l_load ?_; (first | refine SXl.v (OpW.load 0 rfl rfl rfl) rfl ?_ ?_ ?_ | refine SXl.v (OpW.loadAll 0 rfl rfl rfl) rfl ?_ ?_ ?_); rfl; rfl) | (refine l_fieldAddr ?_; (refine SXl.v (OpW.fieldAddr rfl) rfl ?_ ?_ ?_); rfl; rfl) | (refine l_move ?_; (refine SXl.v (OpW.move rfl) rfl ?_ ?_ ?_); rfl; rfl) | (refine l_assign ?_; (refine SXl.v (OpW.assign rfl) rfl ?_ ?_ ?_); rfl; rfl) | (refine l_geq ?_; (refine SXl.v (OpW.geq rfl rfl) rfl ?_ ?_ ?_); rfl; rfl) | (refine l_pick ?_; (refine SXl.v (OpW.pick rfl rfl rfl) rfl ?_ ?_ ?_); rfl; rfl) | (refine l_box ?_; refine SXl.box ?_ ?_ rfl rfl (fun g => ?_); rfl; rfl) | (rw [q0]) | refine SX.ret ?_)
    refine SQ.body1 rfl rfl (fun w' hl => ⟨ret_bool hv.symm, hl.mod⟩)

set_option maxRecDepth 100000 in
set_option maxHeartbeats 4000000 in
theorem sedgesOk_any (x : Edges) (w : World) : Calls Tryz.prog 104 #[.agg #[.int .i64 x.left, .int .i64 x.top, .int .i64 x.right, .int .i64 x.bottom]] w fun e w' => e = .returned (.bool (edgesOk x)) ∧ Mod (fun _ => False) w w' := by
  refine calls_sx Tryz.func104 rfl rfl (fun a h1 h2 h3 => ((Fr.nil h1 h2).arg (h3 0 _ rfl))) ?_
  cases q0 : inB x.left 0 1048576
  · have hv : edgesOk x = false := by simp [edgesOk, q0]
    repeat (first | refine SX.seq ?_ | refine SXl.nil ?_ | refine SX.region ?_ | refine SQ.thenNormal ?_ | (refine SXl.no rfl rfl rfl ?_) | (refine l_call ?_; (refine SXl.v (OpW.calls rfl (fun w _ => l01In_any _ _ _ _)) rfl ?_ ?_ ?_); rfl; rfl) | (refine l_load ?_; (refine SXl.v (OpW.load 0 rfl rfl rfl) rfl ?_ ?_ ?_); rfl; rfl) | (refine l_fieldAddr ?_; (refine SXl.v (OpW.fieldAddr rfl) rfl ?_ ?_ ?_); rfl; rfl) | (refine l_move ?_; (refine SXl.v (OpW.move rfl) rfl ?_ ?_ ?_); rfl; rfl) | (refine l_assign ?_; (refine SXl.v (OpW.assign rfl) rfl ?_ ?_ ?_); rfl; rfl) | (refine l_pick ?_; (refine SXl.v (OpW.pick rfl rfl rfl) rfl ?_ ?_ ?_); rfl; rfl) | (refine l_box ?_; refine SXl.box ?_ ?_ rfl rfl (fun g => ?_); rfl; rfl) | (rw [q0]) | refine SX.ret ?_)
    refine SQ.body1 rfl rfl (fun w' hl => ⟨ret_bool hv.symm, hl.mod⟩)
  cases q1 : inB x.top 0 1048576
  · have hv : edgesOk x = false := by simp [edgesOk, q0, q1]
    repeat (first | refine SX.seq ?_ | refine SXl.nil ?_ | refine SX.region ?_ | refine SQ.thenNormal ?_ | (refine SXl.no rfl rfl rfl ?_) | (refine l_call ?_; (refine SXl.v (OpW.calls rfl (fun w _ => l01In_any _ _ _ _)) rfl ?_ ?_ ?_); rfl; rfl) | (refine l_load ?_; (refine SXl.v (OpW.load 0 rfl rfl rfl) rfl ?_ ?_ ?_); rfl; rfl) | (refine l_fieldAddr ?_; (refine SXl.v (OpW.fieldAddr rfl) rfl ?_ ?_ ?_); rfl; rfl) | (refine l_move ?_; (refine SXl.v (OpW.move rfl) rfl ?_ ?_ ?_); rfl; rfl) | (refine l_assign ?_; (refine SXl.v (OpW.assign rfl) rfl ?_ ?_ ?_); rfl; rfl) | (refine l_pick ?_; (refine SXl.v (OpW.pick rfl rfl rfl) rfl ?_ ?_ ?_); rfl; rfl) | (refine l_box ?_; refine SXl.box ?_ ?_ rfl rfl (fun g => ?_); rfl; rfl) | ((first | rw [q0] | rw [q1])) | refine SX.ret ?_)
    refine SQ.body1 rfl rfl (fun w' hl => ⟨ret_bool hv.symm, hl.mod⟩)
  cases q2 : inB x.right 0 1048576
  · have hv : edgesOk x = false := by simp [edgesOk, q0, q1, q2]
    repeat (first | refine SX.seq ?_ | refine SXl.nil ?_ | refine SX.region ?_ | refine SQ.thenNormal ?_ | (refine SXl.no rfl rfl rfl ?_) | (refine l_call ?_; (refine SXl.v (OpW.calls rfl (fun w _ => l01In_any _ _ _ _)) rfl ?_ ?_ ?_); rfl; rfl) | (refine l_load ?_; (refine SXl.v (OpW.load 0 rfl rfl rfl) rfl ?_ ?_ ?_); rfl; rfl) | (refine l_fieldAddr ?_; (refine SXl.v (OpW.fieldAddr rfl) rfl ?_ ?_ ?_); rfl; rfl) | (refine l_move ?_; (refine SXl.v (OpW.move rfl) rfl ?_ ?_ ?_); rfl; rfl) | (refine l_assign ?_; (refine SXl.v (OpW.assign rfl) rfl ?_ ?_ ?_); rfl; rfl) | (refine l_pick ?_; (refine SXl.v (OpW.pick rfl rfl rfl) rfl ?_ ?_ ?_); rfl; rfl) | (refine l_box ?_; refine SXl.box ?_ ?_ rfl rfl (fun g => ?_); rfl; rfl) | ((first | rw [q0] | rw [q1] | rw [q2])) | refine SX.ret ?_)
    refine SQ.body1 rfl rfl (fun w' hl => ⟨ret_bool hv.symm, hl.mod⟩)
  cases q3 : inB x.bottom 0 1048576
  · have hv : edgesOk x = false := by simp [edgesOk, q0, q1, q2, q3]
    repeat (first | refine SX.seq ?_ | refine SXl.nil ?_ | refine SX.region ?_ | refine SQ.thenNormal ?_ | (refine l_call ?_; (refine SXl.v (OpW.calls rfl (fun w _ => l01In_any _ _ _ _)) rfl ?_ ?_ ?_); rfl; rfl) | (refine l_load ?_; (refine SXl.v (OpW.load 0 rfl rfl rfl) rfl ?_ ?_ ?_); rfl; rfl) | (refine l_fieldAddr ?_; (refine SXl.v (OpW.fieldAddr rfl) rfl ?_ ?_ ?_); rfl; rfl) | (refine l_move ?_; (refine SXl.v (OpW.move rfl) rfl ?_ ?_ ?_); rfl; rfl) | (refine l_assign ?_; (refine SXl.v (OpW.assign rfl) rfl ?_ ?_ ?_); rfl; rfl) | (refine l_pick ?_; (refine SXl.v (OpW.pick rfl rfl rfl) rfl ?_ ?_ ?_); rfl; rfl) | (refine l_box ?_; refine SXl.box ?_ ?_ rfl rfl (fun g => ?_); rfl; rfl) | ((first | rw [q0] | rw [q1] | rw [q2] | rw [q3])) | refine SX.ret ?_)
    refine SQ.body1 rfl rfl (fun w' hl => ⟨ret_bool hv.symm, hl.mod⟩)
  have hv : edgesOk x = true := by simp [edgesOk, q0, q1, q2, q3]
  repeat (first | refine SX.seq ?_ | refine SXl.nil ?_ | refine SX.region ?_ | refine SQ.thenNormal ?_ | (refine l_call ?_; (refine SXl.v (OpW.calls rfl (fun w _ => l01In_any _ _ _ _)) rfl ?_ ?_ ?_); rfl; rfl) | (refine l_load ?_; (refine SXl.v (OpW.load 0 rfl rfl rfl) rfl ?_ ?_ ?_); rfl; rfl) | (refine l_fieldAddr ?_; (refine SXl.v (OpW.fieldAddr rfl) rfl ?_ ?_ ?_); rfl; rfl) | (refine l_move ?_; (refine SXl.v (OpW.move rfl) rfl ?_ ?_ ?_); rfl; rfl) | (refine l_assign ?_; (refine SXl.v (OpW.assign rfl) rfl ?_ ?_ ?_); rfl; rfl) | (refine l_pick ?_; (refine SXl.v (OpW.pick rfl rfl rfl) rfl ?_ ?_ ?_); rfl; rfl) | (refine l_box ?_; refine SXl.box ?_ ?_ rfl rfl (fun g => ?_); rfl; rfl) | ((first | rw [q0] | rw [q1] | rw [q2] | rw [q3])) | refine SX.ret ?_)
  refine SQ.body1 rfl rfl (fun w' hl => ⟨ret_bool hv.symm, hl.mod⟩)

set_option maxRecDepth 100000 in
set_option maxHeartbeats 4000000 in
theorem ssidesOk_any (x : Sides) (w : World) : Calls Tryz.prog 103 #[.agg #[.int .i64 x.left.kind, .int .i64 x.left.n, .int .i64 x.top.kind, .int .i64 x.top.n, .int .i64 x.right.kind, .int .i64 x.right.n, .int .i64 x.bottom.kind, .int .i64 x.bottom.n, .int .i64 x.start.kind, .int .i64 x.start.n, .int .i64 x.stop.kind, .int .i64 x.stop.n]] w fun e w' => e = .returned (.bool (sidesOk x)) ∧ Mod (fun _ => False) w w' := by
  refine calls_sx Tryz.func103 rfl rfl (fun a h1 h2 h3 => ((Fr.nil h1 h2).arg (h3 0 _ rfl))) ?_
  cases q0 : valOk x.left
  · have hv : sidesOk x = false := by simp [sidesOk, q0]
    repeat (first | refine SX.seq ?_ | refine SXl.nil ?_ | refine SX.region ?_ | refine SQ.thenNormal ?_ | (refine SXl.no rfl rfl rfl ?_) | (refine l_call ?_; (refine SXl.v (OpW.call rfl (fun w hl => svalueOk_any _ _)) rfl ?_ ?_ ?_); rfl; rfl) | (refine l_load ?_; (refine SXl.v (OpW.loadRow 0 rfl rfl rfl rfl) rfl ?_ ?_ ?_); rfl; rfl) | (refine l_fieldAddr ?_; (refine SXl.v (OpW.fieldAddr rfl) rfl ?_ ?_ ?_); rfl; rfl) | (refine l_move ?_; (refine SXl.v (OpW.move rfl) rfl ?_ ?_ ?_); rfl; rfl) | (refine l_assign ?_; (refine SXl.v (OpW.assign rfl) rfl ?_ ?_ ?_); rfl; rfl) | (refine l_pick ?_; (refine SXl.v (OpW.pick rfl rfl rfl) rfl ?_ ?_ ?_); rfl; rfl) | (refine l_box ?_; refine SXl.box ?_ ?_ rfl rfl (fun g => ?_); rfl; rfl) | (rw [q0]) | refine SX.ret ?_)
    refine SQ.body1 rfl rfl (fun w' hl => ⟨ret_bool hv.symm, hl.mod⟩)
  cases q1 : valOk x.top
  · have hv : sidesOk x = false := by simp [sidesOk, q0, q1]
    repeat (first | refine SX.seq ?_ | refine SXl.nil ?_ | refine SX.region ?_ | refine SQ.thenNormal ?_ | (refine SXl.no rfl rfl rfl ?_) | (refine l_call ?_; (refine SXl.v (OpW.call rfl (fun w hl => svalueOk_any _ _)) rfl ?_ ?_ ?_); rfl; rfl) | (refine l_load ?_; (refine SXl.v (OpW.loadRow 0 rfl rfl rfl rfl) rfl ?_ ?_ ?_); rfl; rfl) | (refine l_fieldAddr ?_; (refine SXl.v (OpW.fieldAddr rfl) rfl ?_ ?_ ?_); rfl; rfl) | (refine l_move ?_; (refine SXl.v (OpW.move rfl) rfl ?_ ?_ ?_); rfl; rfl) | (refine l_assign ?_; (refine SXl.v (OpW.assign rfl) rfl ?_ ?_ ?_); rfl; rfl) | (refine l_pick ?_; (refine SXl.v (OpW.pick rfl rfl rfl) rfl ?_ ?_ ?_); rfl; rfl) | (refine l_box ?_; refine SXl.box ?_ ?_ rfl rfl (fun g => ?_); rfl; rfl) | ((first | rw [q0] | rw [q1])) | refine SX.ret ?_)
    refine SQ.body1 rfl rfl (fun w' hl => ⟨ret_bool hv.symm, hl.mod⟩)
  cases q2 : valOk x.right
  · have hv : sidesOk x = false := by simp [sidesOk, q0, q1, q2]
    repeat (first | refine SX.seq ?_ | refine SXl.nil ?_ | refine SX.region ?_ | refine SQ.thenNormal ?_ | (refine SXl.no rfl rfl rfl ?_) | (refine l_call ?_; (refine SXl.v (OpW.call rfl (fun w hl => svalueOk_any _ _)) rfl ?_ ?_ ?_); rfl; rfl) | (refine l_load ?_; (refine SXl.v (OpW.loadRow 0 rfl rfl rfl rfl) rfl ?_ ?_ ?_); rfl; rfl) | (refine l_fieldAddr ?_; (refine SXl.v (OpW.fieldAddr rfl) rfl ?_ ?_ ?_); rfl; rfl) | (refine l_move ?_; (refine SXl.v (OpW.move rfl) rfl ?_ ?_ ?_); rfl; rfl) | (refine l_assign ?_; (refine SXl.v (OpW.assign rfl) rfl ?_ ?_ ?_); rfl; rfl) | (refine l_pick ?_; (refine SXl.v (OpW.pick rfl rfl rfl) rfl ?_ ?_ ?_); rfl; rfl) | (refine l_box ?_; refine SXl.box ?_ ?_ rfl rfl (fun g => ?_); rfl; rfl) | ((first | rw [q0] | rw [q1] | rw [q2])) | refine SX.ret ?_)
    refine SQ.body1 rfl rfl (fun w' hl => ⟨ret_bool hv.symm, hl.mod⟩)
  cases q3 : valOk x.bottom
  · have hv : sidesOk x = false := by simp [sidesOk, q0, q1, q2, q3]
    repeat (first | refine SX.seq ?_ | refine SXl.nil ?_ | refine SX.region ?_ | refine SQ.thenNormal ?_ | (refine SXl.no rfl rfl rfl ?_) | (refine l_call ?_; (refine SXl.v (OpW.call rfl (fun w hl => svalueOk_any _ _)) rfl ?_ ?_ ?_); rfl; rfl) | (refine l_load ?_; (refine SXl.v (OpW.loadRow 0 rfl rfl rfl rfl) rfl ?_ ?_ ?_); rfl; rfl) | (refine l_fieldAddr ?_; (refine SXl.v (OpW.fieldAddr rfl) rfl ?_ ?_ ?_); rfl; rfl) | (refine l_move ?_; (refine SXl.v (OpW.move rfl) rfl ?_ ?_ ?_); rfl; rfl) | (refine l_assign ?_; (refine SXl.v (OpW.assign rfl) rfl ?_ ?_ ?_); rfl; rfl) | (refine l_pick ?_; (refine SXl.v (OpW.pick rfl rfl rfl) rfl ?_ ?_ ?_); rfl; rfl) | (refine l_box ?_; refine SXl.box ?_ ?_ rfl rfl (fun g => ?_); rfl; rfl) | ((first | rw [q0] | rw [q1] | rw [q2] | rw [q3])) | refine SX.ret ?_)
    refine SQ.body1 rfl rfl (fun w' hl => ⟨ret_bool hv.symm, hl.mod⟩)
  cases q4 : valOk x.start
  · have hv : sidesOk x = false := by simp [sidesOk, q0, q1, q2, q3, q4]
    repeat (first | refine SX.seq ?_ | refine SXl.nil ?_ | refine SX.region ?_ | refine SQ.thenNormal ?_ | (refine SXl.no rfl rfl rfl ?_) | (refine l_call ?_; (refine SXl.v (OpW.call rfl (fun w hl => svalueOk_any _ _)) rfl ?_ ?_ ?_); rfl; rfl) | (refine l_load ?_; (refine SXl.v (OpW.loadRow 0 rfl rfl rfl rfl) rfl ?_ ?_ ?_); rfl; rfl) | (refine l_fieldAddr ?_; (refine SXl.v (OpW.fieldAddr rfl) rfl ?_ ?_ ?_); rfl; rfl) | (refine l_move ?_; (refine SXl.v (OpW.move rfl) rfl ?_ ?_ ?_); rfl; rfl) | (refine l_assign ?_; (refine SXl.v (OpW.assign rfl) rfl ?_ ?_ ?_); rfl; rfl) | (refine l_pick ?_; (refine SXl.v (OpW.pick rfl rfl rfl) rfl ?_ ?_ ?_); rfl; rfl) | (refine l_box ?_; refine SXl.box ?_ ?_ rfl rfl (fun g => ?_); rfl; rfl) | ((first | rw [q0] | rw [q1] | rw [q2] | rw [q3] | rw [q4])) | refine SX.ret ?_)
    refine SQ.body1 rfl rfl (fun w' hl => ⟨ret_bool hv.symm, hl.mod⟩)
  cases q5 : valOk x.stop
  · have hv : sidesOk x = false := by simp [sidesOk, q0, q1, q2, q3, q4, q5]
    repeat (first | refine SX.seq ?_ | refine SXl.nil ?_ | refine SX.region ?_ | refine SQ.thenNormal ?_ | (refine l_call ?_; (refine SXl.v (OpW.call rfl (fun w hl => svalueOk_any _ _)) rfl ?_ ?_ ?_); rfl; rfl) | (refine l_load ?_; (refine SXl.v (OpW.loadRow 0 rfl rfl rfl rfl) rfl ?_ ?_ ?_); rfl; rfl) | (refine l_fieldAddr ?_; (refine SXl.v (OpW.fieldAddr rfl) rfl ?_ ?_ ?_); rfl; rfl) | (refine l_move ?_; (refine SXl.v (OpW.move rfl) rfl ?_ ?_ ?_); rfl; rfl) | (refine l_assign ?_; (refine SXl.v (OpW.assign rfl) rfl ?_ ?_ ?_); rfl; rfl) | (refine l_pick ?_; (refine SXl.v (OpW.pick rfl rfl rfl) rfl ?_ ?_ ?_); rfl; rfl) | (refine l_box ?_; refine SXl.box ?_ ?_ rfl rfl (fun g => ?_); rfl; rfl) | ((first | rw [q0] | rw [q1] | rw [q2] | rw [q3] | rw [q4] | rw [q5])) | refine SX.ret ?_)
    refine SQ.body1 rfl rfl (fun w' hl => ⟨ret_bool hv.symm, hl.mod⟩)
  have hv : sidesOk x = true := by simp [sidesOk, q0, q1, q2, q3, q4, q5]
  repeat (first | refine SX.seq ?_ | refine SXl.nil ?_ | refine SX.region ?_ | refine SQ.thenNormal ?_ | (refine l_call ?_; (refine SXl.v (OpW.call rfl (fun w hl => svalueOk_any _ _)) rfl ?_ ?_ ?_); rfl; rfl) | (refine l_load ?_; (refine SXl.v (OpW.loadRow 0 rfl rfl rfl rfl) rfl ?_ ?_ ?_); rfl; rfl) | (refine l_fieldAddr ?_; (refine SXl.v (OpW.fieldAddr rfl) rfl ?_ ?_ ?_); rfl; rfl) | (refine l_move ?_; (refine SXl.v (OpW.move rfl) rfl ?_ ?_ ?_); rfl; rfl) | (refine l_assign ?_; (refine SXl.v (OpW.assign rfl) rfl ?_ ?_ ?_); rfl; rfl) | (refine l_pick ?_; (refine SXl.v (OpW.pick rfl rfl rfl) rfl ?_ ?_ ?_); rfl; rfl) | (refine l_box ?_; refine SXl.box ?_ ?_ rfl rfl (fun g => ?_); rfl; rfl) | ((first | rw [q0] | rw [q1] | rw [q2] | rw [q3] | rw [q4] | rw [q5])) | refine SX.ret ?_)
  refine SQ.body1 rfl rfl (fun w' hl => ⟨ret_bool hv.symm, hl.mod⟩)


end Go.Proofs.YtpkpkojmaebflaaGreatDoor
namespace Go.Proofs.YtpkpkojmaebflaaGreatDoor
open Go.RowKit

theorem Style.len (s : Style) : s.cells.length = 60 := rfl
theorem Style.ones (s : Style) : s.cells.toArray.all (·.oneCell') = true := by simp [Style.cells, Value.oneCell']
@[go_sem] theorem Style.set54 (s : Style) (v : Int) : s.cells.set 54 (.int .i64 v) = Style.cells { s with border := { s.border with left := v } } := rfl
@[go_sem] theorem Style.set55 (s : Style) (v : Int) : s.cells.set 55 (.int .i64 v) = Style.cells { s with border := { s.border with top := v } } := rfl
@[go_sem] theorem Style.set56 (s : Style) (v : Int) : s.cells.set 56 (.int .i64 v) = Style.cells { s with border := { s.border with right := v } } := rfl
@[go_sem] theorem Style.set57 (s : Style) (v : Int) : s.cells.set 57 (.int .i64 v) = Style.cells { s with border := { s.border with bottom := v } } := rfl
@[go_sem] theorem Style.set58 (s : Style) (v : Int) : s.cells.set 58 (.int .i64 v) = Style.cells { s with rowGap := v } := rfl
@[go_sem] theorem Style.set59 (s : Style) (v : Int) : s.cells.set 59 (.int .i64 v) = Style.cells { s with colGap := v } := rfl
theorem spl_mid (a x b y : List Value) (h : x.length = y.length) : spl (a ++ x ++ b).toArray a.length y = (a ++ y ++ b).toArray := by
  induction y generalizing a x with
  | nil =>
    cases x with
    | nil => rfl
    | cons v x => simp at h
  | cons u y ih =>
    cases x with
    | nil => simp at h
    | cons v x =>
      simp only [List.length_cons, Nat.add_right_cancel_iff] at h
      have e : (a ++ (v :: x) ++ b).toArray.setIfInBounds a.length u = ((a ++ [u]) ++ x ++ b).toArray := by simp
      have h1 := ih (a ++ [u]) x h
      rw [spl_cons, e]
      simpa using h1
theorem row_blk {w : World} {b : Nat} {l : List Value} {T : TypeId} (h : w.heap[b]? = some (.cells l.toArray T (0, 0))) (o n : Nat) (hn : o + n ≤ l.length) :
    hasRow w b o n = true ∧ rowOf w b o n = ((l.drop o).take n).toArray ∧ openRow w b = true := by
  refine ⟨by simp [hasRow, h, hn], ?_, by simp [openRow, h]⟩
  unfold rowOf
  rw [h]
  simp
@[go_sem ↓] theorem exec_load_lStyle (ρ : Operand → Value) (d : Option Tmp) (x : Operand) (ty : TypeId) (pos : String) (af : Array Edge) (g : Option (Nat × Bool)) (w : World) :
    (execOp ρ { dst := d, op := .load 124 x, type := ty, pos, after := af, guard := g }).run Tryz.prog w = LoadS Tryz.prog 124 (ρ x) w := rfl
@[go_sem ↓] theorem exec_load_iStyle (ρ : Operand → Value) (d : Option Tmp) (x : Operand) (ty : TypeId) (pos : String) (af : Array Edge) (g : Option (Nat × Bool)) (w : World) :
    (execOp ρ { dst := d, op := .load 80 x, type := ty, pos, after := af, guard := g }).run Tryz.prog w = LoadS Tryz.prog 80 (ρ x) w := rfl
@[go_sem ↓] theorem exec_store_iStyle (ρ : Operand → Value) (d : Option Tmp) (x y : Operand) (ty : TypeId) (pos : String) (af : Array Edge) (g : Option (Nat × Bool)) (w : World) :
    (execOp ρ { dst := d, op := .store 80 x y, type := ty, pos, after := af, guard := g }).run Tryz.prog w = StoreS Tryz.prog 80 (ρ x) (ρ y) w := rfl
@[go_sem] theorem LoadS_lStyle {w : World} {b o : Nat} (h : hasRow w b o 60 = true) : LoadS Tryz.prog 124 (.pointer (some ⟨b, o, none⟩)) w = .ok (.value (.agg (rowOf w b o 60))) w := LoadS_row Tryz.underlying124 rfl (by kernel_rfl) h
@[go_sem] theorem LoadS_iStyle {w : World} {b o : Nat} (h : hasRow w b o 60 = true) : LoadS Tryz.prog 80 (.pointer (some ⟨b, o, none⟩)) w = .ok (.value (.agg (rowOf w b o 60))) w := LoadS_row Tryz.underlying80 rfl (by kernel_rfl) h
@[go_sem] theorem StoreS_iStyle {w : World} {b o : Nat} {s : Style} (h : hasRow w b o 60 = true) (hz : openRow w b = true) : StoreS Tryz.prog 80 (.pointer (some ⟨b, o, none⟩)) (.agg s.cells.toArray) w = .ok .skip (w.setCells b o s.cells) := StoreS_row (by kernel_rfl) h hz rfl (Style.ones s)

end Go.Proofs.YtpkpkojmaebflaaGreatDoor
namespace Go.Proofs.YtpkpkojmaebflaaGreatDoor
open Go.RowKit

set_option maxRecDepth 100000 in
set_option maxHeartbeats 8000000 in
theorem toStyle_any (x : Style) (w : World) : Calls Tryz.prog 107 #[.agg #[.int .i64 x.dir, .int .i64 x.wrap, .int .i64 x.justify, .int .i64 x.items, .int .i64 x.self, .int .i64 x.content, .bool x.apart, .bool x.hidden, .int .i64 x.order, .int .i64 x.grow, .int .i64 x.shrink, .int .i64 x.basis.kind, .int .i64 x.basis.n, .int .i64 x.width.kind, .int .i64 x.width.n, .int .i64 x.height.kind, .int .i64 x.height.n, .int .i64 x.minWidth.kind, .int .i64 x.minWidth.n, .int .i64 x.minHeight.kind, .int .i64 x.minHeight.n, .int .i64 x.maxWidth.kind, .int .i64 x.maxWidth.n, .int .i64 x.maxHeight.kind, .int .i64 x.maxHeight.n, .int .i64 x.ratio, .int .i64 x.margin.left.kind, .int .i64 x.margin.left.n, .int .i64 x.margin.top.kind, .int .i64 x.margin.top.n, .int .i64 x.margin.right.kind, .int .i64 x.margin.right.n, .int .i64 x.margin.bottom.kind, .int .i64 x.margin.bottom.n, .int .i64 x.margin.start.kind, .int .i64 x.margin.start.n, .int .i64 x.margin.stop.kind, .int .i64 x.margin.stop.n, .int .i64 x.inset.left.kind, .int .i64 x.inset.left.n, .int .i64 x.inset.top.kind, .int .i64 x.inset.top.n, .int .i64 x.inset.right.kind, .int .i64 x.inset.right.n, .int .i64 x.inset.bottom.kind, .int .i64 x.inset.bottom.n, .int .i64 x.inset.start.kind, .int .i64 x.inset.start.n, .int .i64 x.inset.stop.kind, .int .i64 x.inset.stop.n, .int .i64 x.pad.left, .int .i64 x.pad.top, .int .i64 x.pad.right, .int .i64 x.pad.bottom, .int .i64 x.border.left, .int .i64 x.border.top, .int .i64 x.border.right, .int .i64 x.border.bottom, .int .i64 x.rowGap, .int .i64 x.colGap]] w fun e w' => e = .returned (.agg #[.int .i64 x.dir, .int .i64 x.wrap, .int .i64 x.justify, .int .i64 x.items, .int .i64 x.self, .int .i64 x.content, .bool x.apart, .bool x.hidden, .int .i64 x.order, .int .i64 x.grow, .int .i64 x.shrink, .int .i64 x.basis.kind, .int .i64 x.basis.n, .int .i64 x.width.kind, .int .i64 x.width.n, .int .i64 x.height.kind, .int .i64 x.height.n, .int .i64 x.minWidth.kind, .int .i64 x.minWidth.n, .int .i64 x.minHeight.kind, .int .i64 x.minHeight.n, .int .i64 x.maxWidth.kind, .int .i64 x.maxWidth.n, .int .i64 x.maxHeight.kind, .int .i64 x.maxHeight.n, .int .i64 x.ratio, .int .i64 x.margin.left.kind, .int .i64 x.margin.left.n, .int .i64 x.margin.top.kind, .int .i64 x.margin.top.n, .int .i64 x.margin.right.kind, .int .i64 x.margin.right.n, .int .i64 x.margin.bottom.kind, .int .i64 x.margin.bottom.n, .int .i64 x.margin.start.kind, .int .i64 x.margin.start.n, .int .i64 x.margin.stop.kind, .int .i64 x.margin.stop.n, .int .i64 x.inset.left.kind, .int .i64 x.inset.left.n, .int .i64 x.inset.top.kind, .int .i64 x.inset.top.n, .int .i64 x.inset.right.kind, .int .i64 x.inset.right.n, .int .i64 x.inset.bottom.kind, .int .i64 x.inset.bottom.n, .int .i64 x.inset.start.kind, .int .i64 x.inset.start.n, .int .i64 x.inset.stop.kind, .int .i64 x.inset.stop.n, .int .i64 x.pad.left, .int .i64 x.pad.top, .int .i64 x.pad.right, .int .i64 x.pad.bottom, .int .i64 x.border.left, .int .i64 x.border.top, .int .i64 x.border.right, .int .i64 x.border.bottom, .int .i64 x.rowGap, .int .i64 x.colGap]) ∧ Mod (fun _ => False) w w' := by
  go_enter Tryz.func107, Tryz.ntmps107
  go_wp2_with fail
  refine (toValue_any x.basis _).mono ?_
  rintro e w1 ⟨rfl, hm1⟩
  have hM1 : Mod (fun _ => False) w w1 := by (repeat (first | with_reducible exact Mod.refl _ _ | with_reducible refine Mod.drewN ?_ _ | with_reducible refine Mod.drew ?_ | with_reducible refine Mod.alloc ?_ _ | ((with_reducible refine Mod.setNew ?_ ?_ _ _ _); (rotate_left; omega)) | with_reducible refine Mod.setAt ?_ _ _ _ | with_reducible exact hm1 | with_reducible refine Mod.thenNone ?_ hm1 ))
  have hS1 := hm1.blk (al3a _ _ _ _) (fun f => f)
  have hR1 := hm1.blk (al3b _ _ _ _) (fun f => f)
  have hD1 := hm1.blk (al3c _ _ _ _) (fun f => f)
  have c1_13 := blk_cell hS1 (j := 13) rfl
  have c1_14 := blk_cell hS1 (j := 14) rfl
  have d1_11 := blk_cell hD1 (j := 11) rfl
  have d1_12 := blk_cell hD1 (j := 12) rfl
  have z1_11 := blk_free hD1 11
  have z1_12 := blk_free hD1 12
  have hr1_0 : w.heap.size < w1.heap.size := (Array.getElem?_eq_some_iff.1 hS1).1
  have hr1_1 : w.heap.size + 1 < w1.heap.size := (Array.getElem?_eq_some_iff.1 hR1).1
  have hr1_2 : w.heap.size + 1 + 1 < w1.heap.size := (Array.getElem?_eq_some_iff.1 hD1).1
  clear hm1
  go_wp2_with fail
  refine (toValue_any x.width _).mono ?_
  rintro e w2 ⟨rfl, hm2⟩
  have hM2 : Mod (fun _ => False) w w2 := by (repeat (first | with_reducible exact Mod.refl _ _ | with_reducible refine Mod.drewN ?_ _ | with_reducible refine Mod.drew ?_ | with_reducible refine Mod.alloc ?_ _ | ((with_reducible refine Mod.setNew ?_ ?_ _ _ _); (rotate_left; omega)) | with_reducible refine Mod.setAt ?_ _ _ _ | with_reducible exact hm2 | with_reducible refine Mod.thenNone ?_ hm2 | with_reducible exact hM1 | with_reducible refine Mod.thenNone ?_ hM1 ))
  have hS2 := hm2.blk (set_far (set_far hS1 (by omega)) (by omega)) (fun f => f)
  have hR2 := hm2.blk (set_far (set_far hR1 (by omega)) (by omega)) (fun f => f)
  have hD2 : w2.heap[w.heap.size + 1 + 1]? = some (.cells #[.int .i64 x.dir, .int .i64 x.wrap, .int .i64 x.justify, .int .i64 x.items, .int .i64 x.self, .int .i64 x.content, .bool x.apart, .bool x.hidden, .int .i64 x.order, .int .i64 x.grow, .int .i64 x.shrink, .int .i64 x.basis.kind, .int .i64 x.basis.n, .int .i64 0, .int .i64 0, .int .i64 0, .int .i64 0, .int .i64 0, .int .i64 0, .int .i64 0, .int .i64 0, .int .i64 0, .int .i64 0, .int .i64 0, .int .i64 0, .int .i64 0, .int .i64 0, .int .i64 0, .int .i64 0, .int .i64 0, .int .i64 0, .int .i64 0, .int .i64 0, .int .i64 0, .int .i64 0, .int .i64 0, .int .i64 0, .int .i64 0, .int .i64 0, .int .i64 0, .int .i64 0, .int .i64 0, .int .i64 0, .int .i64 0, .int .i64 0, .int .i64 0, .int .i64 0, .int .i64 0, .int .i64 0, .int .i64 0, .int .i64 0, .int .i64 0, .int .i64 0, .int .i64 0, .int .i64 0, .int .i64 0, .int .i64 0, .int .i64 0, .int .i64 0, .int .i64 0] 80 (0, 0)) := hm2.blk (set_in (set_in hD1)) (fun f => f)
  have c2_15 := blk_cell hS2 (j := 15) rfl
  have c2_16 := blk_cell hS2 (j := 16) rfl
  have d2_13 := blk_cell hD2 (j := 13) rfl
  have d2_14 := blk_cell hD2 (j := 14) rfl
  have z2_13 := blk_free hD2 13
  have z2_14 := blk_free hD2 14
  have hr2_0 : w.heap.size < w2.heap.size := (Array.getElem?_eq_some_iff.1 hS2).1
  have hr2_1 : w.heap.size + 1 < w2.heap.size := (Array.getElem?_eq_some_iff.1 hR2).1
  have hr2_2 : w.heap.size + 1 + 1 < w2.heap.size := (Array.getElem?_eq_some_iff.1 hD2).1
  clear hm2 hS1 hR1 hD1 hM1 hr1_0 hr1_1 hr1_2 c1_13 c1_14 d1_11 z1_11 d1_12 z1_12
  go_wp2_with fail
  refine (toValue_any x.height _).mono ?_
  rintro e w3 ⟨rfl, hm3⟩
  have hM3 : Mod (fun _ => False) w w3 := by (repeat (first | with_reducible exact Mod.refl _ _ | with_reducible refine Mod.drewN ?_ _ | with_reducible refine Mod.drew ?_ | with_reducible refine Mod.alloc ?_ _ | ((with_reducible refine Mod.setNew ?_ ?_ _ _ _); (rotate_left; omega)) | with_reducible refine Mod.setAt ?_ _ _ _ | with_reducible exact hm3 | with_reducible refine Mod.thenNone ?_ hm3 | with_reducible exact hM2 | with_reducible refine Mod.thenNone ?_ hM2 ))
  have hS3 := hm3.blk (set_far (set_far hS2 (by omega)) (by omega)) (fun f => f)
  have hR3 := hm3.blk (set_far (set_far hR2 (by omega)) (by omega)) (fun f => f)
  have hD3 : w3.heap[w.heap.size + 1 + 1]? = some (.cells #[.int .i64 x.dir, .int .i64 x.wrap, .int .i64 x.justify, .int .i64 x.items, .int .i64 x.self, .int .i64 x.content, .bool x.apart, .bool x.hidden, .int .i64 x.order, .int .i64 x.grow, .int .i64 x.shrink, .int .i64 x.basis.kind, .int .i64 x.basis.n, .int .i64 x.width.kind, .int .i64 x.width.n, .int .i64 0, .int .i64 0, .int .i64 0, .int .i64 0, .int .i64 0, .int .i64 0, .int .i64 0, .int .i64 0, .int .i64 0, .int .i64 0, .int .i64 0, .int .i64 0, .int .i64 0, .int .i64 0, .int .i64 0, .int .i64 0, .int .i64 0, .int .i64 0, .int .i64 0, .int .i64 0, .int .i64 0, .int .i64 0, .int .i64 0, .int .i64 0, .int .i64 0, .int .i64 0, .int .i64 0, .int .i64 0, .int .i64 0, .int .i64 0, .int .i64 0, .int .i64 0, .int .i64 0, .int .i64 0, .int .i64 0, .int .i64 0, .int .i64 0, .int .i64 0, .int .i64 0, .int .i64 0, .int .i64 0, .int .i64 0, .int .i64 0, .int .i64 0, .int .i64 0] 80 (0, 0)) := hm3.blk (set_in (set_in hD2)) (fun f => f)
  have c3_17 := blk_cell hS3 (j := 17) rfl
  have c3_18 := blk_cell hS3 (j := 18) rfl
  have d3_15 := blk_cell hD3 (j := 15) rfl
  have d3_16 := blk_cell hD3 (j := 16) rfl
  have z3_15 := blk_free hD3 15
  have z3_16 := blk_free hD3 16
  have hr3_0 : w.heap.size < w3.heap.size := (Array.getElem?_eq_some_iff.1 hS3).1
  have hr3_1 : w.heap.size + 1 < w3.heap.size := (Array.getElem?_eq_some_iff.1 hR3).1
  have hr3_2 : w.heap.size + 1 + 1 < w3.heap.size := (Array.getElem?_eq_some_iff.1 hD3).1
  clear hm3 hS2 hR2 hD2 hM2 hr2_0 hr2_1 hr2_2 c2_15 c2_16 d2_13 z2_13 d2_14 z2_14
  go_wp2_with fail
  refine (toValue_any x.minWidth _).mono ?_
  rintro e w4 ⟨rfl, hm4⟩
  have hM4 : Mod (fun _ => False) w w4 := by (repeat (first | with_reducible exact Mod.refl _ _ | with_reducible refine Mod.drewN ?_ _ | with_reducible refine Mod.drew ?_ | with_reducible refine Mod.alloc ?_ _ | ((with_reducible refine Mod.setNew ?_ ?_ _ _ _); (rotate_left; omega)) | with_reducible refine Mod.setAt ?_ _ _ _ | with_reducible exact hm4 | with_reducible refine Mod.thenNone ?_ hm4 | with_reducible exact hM3 | with_reducible refine Mod.thenNone ?_ hM3 ))
  have hS4 := hm4.blk (set_far (set_far hS3 (by omega)) (by omega)) (fun f => f)
  have hR4 := hm4.blk (set_far (set_far hR3 (by omega)) (by omega)) (fun f => f)
  have hD4 : w4.heap[w.heap.size + 1 + 1]? = some (.cells #[.int .i64 x.dir, .int .i64 x.wrap, .int .i64 x.justify, .int .i64 x.items, .int .i64 x.self, .int .i64 x.content, .bool x.apart, .bool x.hidden, .int .i64 x.order, .int .i64 x.grow, .int .i64 x.shrink, .int .i64 x.basis.kind, .int .i64 x.basis.n, .int .i64 x.width.kind, .int .i64 x.width.n, .int .i64 x.height.kind, .int .i64 x.height.n, .int .i64 0, .int .i64 0, .int .i64 0, .int .i64 0, .int .i64 0, .int .i64 0, .int .i64 0, .int .i64 0, .int .i64 0, .int .i64 0, .int .i64 0, .int .i64 0, .int .i64 0, .int .i64 0, .int .i64 0, .int .i64 0, .int .i64 0, .int .i64 0, .int .i64 0, .int .i64 0, .int .i64 0, .int .i64 0, .int .i64 0, .int .i64 0, .int .i64 0, .int .i64 0, .int .i64 0, .int .i64 0, .int .i64 0, .int .i64 0, .int .i64 0, .int .i64 0, .int .i64 0, .int .i64 0, .int .i64 0, .int .i64 0, .int .i64 0, .int .i64 0, .int .i64 0, .int .i64 0, .int .i64 0, .int .i64 0, .int .i64 0] 80 (0, 0)) := hm4.blk (set_in (set_in hD3)) (fun f => f)
  have c4_19 := blk_cell hS4 (j := 19) rfl
  have c4_20 := blk_cell hS4 (j := 20) rfl
  have d4_17 := blk_cell hD4 (j := 17) rfl
  have d4_18 := blk_cell hD4 (j := 18) rfl
  have z4_17 := blk_free hD4 17
  have z4_18 := blk_free hD4 18
  have hr4_0 : w.heap.size < w4.heap.size := (Array.getElem?_eq_some_iff.1 hS4).1
  have hr4_1 : w.heap.size + 1 < w4.heap.size := (Array.getElem?_eq_some_iff.1 hR4).1
  have hr4_2 : w.heap.size + 1 + 1 < w4.heap.size := (Array.getElem?_eq_some_iff.1 hD4).1
  clear hm4 hS3 hR3 hD3 hM3 hr3_0 hr3_1 hr3_2 c3_17 c3_18 d3_15 z3_15 d3_16 z3_16
  go_wp2_with fail
  refine (toValue_any x.minHeight _).mono ?_
  rintro e w5 ⟨rfl, hm5⟩
  have hM5 : Mod (fun _ => False) w w5 := by (repeat (first | with_reducible exact Mod.refl _ _ | with_reducible refine Mod.drewN ?_ _ | with_reducible refine Mod.drew ?_ | with_reducible refine Mod.alloc ?_ _ | ((with_reducible refine Mod.setNew ?_ ?_ _ _ _); (rotate_left; omega)) | with_reducible refine Mod.setAt ?_ _ _ _ | with_reducible exact hm5 | with_reducible refine Mod.thenNone ?_ hm5 | with_reducible exact hM4 | with_reducible refine Mod.thenNone ?_ hM4 ))
  have hS5 := hm5.blk (set_far (set_far hS4 (by omega)) (by omega)) (fun f => f)
  have hR5 := hm5.blk (set_far (set_far hR4 (by omega)) (by omega)) (fun f => f)
  have hD5 : w5.heap[w.heap.size + 1 + 1]? = some (.cells #[.int .i64 x.dir, .int .i64 x.wrap, .int .i64 x.justify, .int .i64 x.items, .int .i64 x.self, .int .i64 x.content, .bool x.apart, .bool x.hidden, .int .i64 x.order, .int .i64 x.grow, .int .i64 x.shrink, .int .i64 x.basis.kind, .int .i64 x.basis.n, .int .i64 x.width.kind, .int .i64 x.width.n, .int .i64 x.height.kind, .int .i64 x.height.n, .int .i64 x.minWidth.kind, .int .i64 x.minWidth.n, .int .i64 0, .int .i64 0, .int .i64 0, .int .i64 0, .int .i64 0, .int .i64 0, .int .i64 0, .int .i64 0, .int .i64 0, .int .i64 0, .int .i64 0, .int .i64 0, .int .i64 0, .int .i64 0, .int .i64 0, .int .i64 0, .int .i64 0, .int .i64 0, .int .i64 0, .int .i64 0, .int .i64 0, .int .i64 0, .int .i64 0, .int .i64 0, .int .i64 0, .int .i64 0, .int .i64 0, .int .i64 0, .int .i64 0, .int .i64 0, .int .i64 0, .int .i64 0, .int .i64 0, .int .i64 0, .int .i64 0, .int .i64 0, .int .i64 0, .int .i64 0, .int .i64 0, .int .i64 0, .int .i64 0] 80 (0, 0)) := hm5.blk (set_in (set_in hD4)) (fun f => f)
  have c5_21 := blk_cell hS5 (j := 21) rfl
  have c5_22 := blk_cell hS5 (j := 22) rfl
  have d5_19 := blk_cell hD5 (j := 19) rfl
  have d5_20 := blk_cell hD5 (j := 20) rfl
  have z5_19 := blk_free hD5 19
  have z5_20 := blk_free hD5 20
  have hr5_0 : w.heap.size < w5.heap.size := (Array.getElem?_eq_some_iff.1 hS5).1
  have hr5_1 : w.heap.size + 1 < w5.heap.size := (Array.getElem?_eq_some_iff.1 hR5).1
  have hr5_2 : w.heap.size + 1 + 1 < w5.heap.size := (Array.getElem?_eq_some_iff.1 hD5).1
  clear hm5 hS4 hR4 hD4 hM4 hr4_0 hr4_1 hr4_2 c4_19 c4_20 d4_17 z4_17 d4_18 z4_18
  go_wp2_with fail
  refine (toValue_any x.maxWidth _).mono ?_
  rintro e w6 ⟨rfl, hm6⟩
  have hM6 : Mod (fun _ => False) w w6 := by (repeat (first | with_reducible exact Mod.refl _ _ | with_reducible refine Mod.drewN ?_ _ | with_reducible refine Mod.drew ?_ | with_reducible refine Mod.alloc ?_ _ | ((with_reducible refine Mod.setNew ?_ ?_ _ _ _); (rotate_left; omega)) | with_reducible refine Mod.setAt ?_ _ _ _ | with_reducible exact hm6 | with_reducible refine Mod.thenNone ?_ hm6 | with_reducible exact hM5 | with_reducible refine Mod.thenNone ?_ hM5 ))
  have hS6 := hm6.blk (set_far (set_far hS5 (by omega)) (by omega)) (fun f => f)
  have hR6 := hm6.blk (set_far (set_far hR5 (by omega)) (by omega)) (fun f => f)
  have hD6 : w6.heap[w.heap.size + 1 + 1]? = some (.cells #[.int .i64 x.dir, .int .i64 x.wrap, .int .i64 x.justify, .int .i64 x.items, .int .i64 x.self, .int .i64 x.content, .bool x.apart, .bool x.hidden, .int .i64 x.order, .int .i64 x.grow, .int .i64 x.shrink, .int .i64 x.basis.kind, .int .i64 x.basis.n, .int .i64 x.width.kind, .int .i64 x.width.n, .int .i64 x.height.kind, .int .i64 x.height.n, .int .i64 x.minWidth.kind, .int .i64 x.minWidth.n, .int .i64 x.minHeight.kind, .int .i64 x.minHeight.n, .int .i64 0, .int .i64 0, .int .i64 0, .int .i64 0, .int .i64 0, .int .i64 0, .int .i64 0, .int .i64 0, .int .i64 0, .int .i64 0, .int .i64 0, .int .i64 0, .int .i64 0, .int .i64 0, .int .i64 0, .int .i64 0, .int .i64 0, .int .i64 0, .int .i64 0, .int .i64 0, .int .i64 0, .int .i64 0, .int .i64 0, .int .i64 0, .int .i64 0, .int .i64 0, .int .i64 0, .int .i64 0, .int .i64 0, .int .i64 0, .int .i64 0, .int .i64 0, .int .i64 0, .int .i64 0, .int .i64 0, .int .i64 0, .int .i64 0, .int .i64 0, .int .i64 0] 80 (0, 0)) := hm6.blk (set_in (set_in hD5)) (fun f => f)
  have c6_23 := blk_cell hS6 (j := 23) rfl
  have c6_24 := blk_cell hS6 (j := 24) rfl
  have d6_21 := blk_cell hD6 (j := 21) rfl
  have d6_22 := blk_cell hD6 (j := 22) rfl
  have z6_21 := blk_free hD6 21
  have z6_22 := blk_free hD6 22
  have hr6_0 : w.heap.size < w6.heap.size := (Array.getElem?_eq_some_iff.1 hS6).1
  have hr6_1 : w.heap.size + 1 < w6.heap.size := (Array.getElem?_eq_some_iff.1 hR6).1
  have hr6_2 : w.heap.size + 1 + 1 < w6.heap.size := (Array.getElem?_eq_some_iff.1 hD6).1
  clear hm6 hS5 hR5 hD5 hM5 hr5_0 hr5_1 hr5_2 c5_21 c5_22 d5_19 z5_19 d5_20 z5_20
  go_wp2_with fail
  refine (toValue_any x.maxHeight _).mono ?_
  rintro e w7 ⟨rfl, hm7⟩
  have hM7 : Mod (fun _ => False) w w7 := by (repeat (first | with_reducible exact Mod.refl _ _ | with_reducible refine Mod.drewN ?_ _ | with_reducible refine Mod.drew ?_ | with_reducible refine Mod.alloc ?_ _ | ((with_reducible refine Mod.setNew ?_ ?_ _ _ _); (rotate_left; omega)) | with_reducible refine Mod.setAt ?_ _ _ _ | with_reducible exact hm7 | with_reducible refine Mod.thenNone ?_ hm7 | with_reducible exact hM6 | with_reducible refine Mod.thenNone ?_ hM6 ))
  have hS7 := hm7.blk (set_far (set_far hS6 (by omega)) (by omega)) (fun f => f)
  have hR7 := hm7.blk (set_far (set_far hR6 (by omega)) (by omega)) (fun f => f)
  have hD7 : w7.heap[w.heap.size + 1 + 1]? = some (.cells #[.int .i64 x.dir, .int .i64 x.wrap, .int .i64 x.justify, .int .i64 x.items, .int .i64 x.self, .int .i64 x.content, .bool x.apart, .bool x.hidden, .int .i64 x.order, .int .i64 x.grow, .int .i64 x.shrink, .int .i64 x.basis.kind, .int .i64 x.basis.n, .int .i64 x.width.kind, .int .i64 x.width.n, .int .i64 x.height.kind, .int .i64 x.height.n, .int .i64 x.minWidth.kind, .int .i64 x.minWidth.n, .int .i64 x.minHeight.kind, .int .i64 x.minHeight.n, .int .i64 x.maxWidth.kind, .int .i64 x.maxWidth.n, .int .i64 0, .int .i64 0, .int .i64 0, .int .i64 0, .int .i64 0, .int .i64 0, .int .i64 0, .int .i64 0, .int .i64 0, .int .i64 0, .int .i64 0, .int .i64 0, .int .i64 0, .int .i64 0, .int .i64 0, .int .i64 0, .int .i64 0, .int .i64 0, .int .i64 0, .int .i64 0, .int .i64 0, .int .i64 0, .int .i64 0, .int .i64 0, .int .i64 0, .int .i64 0, .int .i64 0, .int .i64 0, .int .i64 0, .int .i64 0, .int .i64 0, .int .i64 0, .int .i64 0, .int .i64 0, .int .i64 0, .int .i64 0, .int .i64 0] 80 (0, 0)) := hm7.blk (set_in (set_in hD6)) (fun f => f)
  have c7_25 := blk_cell hS7 (j := 25) rfl
  have c7_26 := blk_cell hS7 (j := 26) rfl
  have c7_27 := blk_cell hS7 (j := 27) rfl
  have c7_28 := blk_cell hS7 (j := 28) rfl
  have c7_29 := blk_cell hS7 (j := 29) rfl
  have c7_30 := blk_cell hS7 (j := 30) rfl
  have c7_31 := blk_cell hS7 (j := 31) rfl
  have c7_32 := blk_cell hS7 (j := 32) rfl
  have c7_33 := blk_cell hS7 (j := 33) rfl
  have c7_34 := blk_cell hS7 (j := 34) rfl
  have c7_35 := blk_cell hS7 (j := 35) rfl
  have c7_36 := blk_cell hS7 (j := 36) rfl
  have c7_37 := blk_cell hS7 (j := 37) rfl
  have d7_23 := blk_cell hD7 (j := 23) rfl
  have d7_24 := blk_cell hD7 (j := 24) rfl
  have d7_25 := blk_cell hD7 (j := 25) rfl
  have z7_23 := blk_free hD7 23
  have z7_24 := blk_free hD7 24
  have z7_25 := blk_free hD7 25
  have hr7_0 : w.heap.size < w7.heap.size := (Array.getElem?_eq_some_iff.1 hS7).1
  have hr7_1 : w.heap.size + 1 < w7.heap.size := (Array.getElem?_eq_some_iff.1 hR7).1
  have hr7_2 : w.heap.size + 1 + 1 < w7.heap.size := (Array.getElem?_eq_some_iff.1 hD7).1
  clear hm7 hS6 hR6 hD6 hM6 hr6_0 hr6_1 hr6_2 c6_23 c6_24 d6_21 z6_21 d6_22 z6_22
  go_wp2_with fail
  refine (toSides_any x.margin _).mono ?_
  rintro e w8 ⟨rfl, hm8⟩
  have hM8 : Mod (fun _ => False) w w8 := by (repeat (first | with_reducible exact Mod.refl _ _ | with_reducible refine Mod.drewN ?_ _ | with_reducible refine Mod.drew ?_ | with_reducible refine Mod.alloc ?_ _ | ((with_reducible refine Mod.setNew ?_ ?_ _ _ _); (rotate_left; omega)) | with_reducible refine Mod.setAt ?_ _ _ _ | with_reducible exact hm8 | with_reducible refine Mod.thenNone ?_ hm8 | with_reducible exact hM7 | with_reducible refine Mod.thenNone ?_ hM7 ))
  have hS8 := hm8.blk (set_far (set_far (set_far hS7 (by omega)) (by omega)) (by omega)) (fun f => f)
  have hR8 := hm8.blk (set_far (set_far (set_far hR7 (by omega)) (by omega)) (by omega)) (fun f => f)
  have hD8 : w8.heap[w.heap.size + 1 + 1]? = some (.cells #[.int .i64 x.dir, .int .i64 x.wrap, .int .i64 x.justify, .int .i64 x.items, .int .i64 x.self, .int .i64 x.content, .bool x.apart, .bool x.hidden, .int .i64 x.order, .int .i64 x.grow, .int .i64 x.shrink, .int .i64 x.basis.kind, .int .i64 x.basis.n, .int .i64 x.width.kind, .int .i64 x.width.n, .int .i64 x.height.kind, .int .i64 x.height.n, .int .i64 x.minWidth.kind, .int .i64 x.minWidth.n, .int .i64 x.minHeight.kind, .int .i64 x.minHeight.n, .int .i64 x.maxWidth.kind, .int .i64 x.maxWidth.n, .int .i64 x.maxHeight.kind, .int .i64 x.maxHeight.n, .int .i64 x.ratio, .int .i64 0, .int .i64 0, .int .i64 0, .int .i64 0, .int .i64 0, .int .i64 0, .int .i64 0, .int .i64 0, .int .i64 0, .int .i64 0, .int .i64 0, .int .i64 0, .int .i64 0, .int .i64 0, .int .i64 0, .int .i64 0, .int .i64 0, .int .i64 0, .int .i64 0, .int .i64 0, .int .i64 0, .int .i64 0, .int .i64 0, .int .i64 0, .int .i64 0, .int .i64 0, .int .i64 0, .int .i64 0, .int .i64 0, .int .i64 0, .int .i64 0, .int .i64 0, .int .i64 0, .int .i64 0] 80 (0, 0)) := hm8.blk (set_in (set_in (set_in hD7))) (fun f => f)
  have c8_38 := blk_cell hS8 (j := 38) rfl
  have c8_39 := blk_cell hS8 (j := 39) rfl
  have c8_40 := blk_cell hS8 (j := 40) rfl
  have c8_41 := blk_cell hS8 (j := 41) rfl
  have c8_42 := blk_cell hS8 (j := 42) rfl
  have c8_43 := blk_cell hS8 (j := 43) rfl
  have c8_44 := blk_cell hS8 (j := 44) rfl
  have c8_45 := blk_cell hS8 (j := 45) rfl
  have c8_46 := blk_cell hS8 (j := 46) rfl
  have c8_47 := blk_cell hS8 (j := 47) rfl
  have c8_48 := blk_cell hS8 (j := 48) rfl
  have c8_49 := blk_cell hS8 (j := 49) rfl
  have d8_26 := blk_cell hD8 (j := 26) rfl
  have d8_27 := blk_cell hD8 (j := 27) rfl
  have d8_28 := blk_cell hD8 (j := 28) rfl
  have d8_29 := blk_cell hD8 (j := 29) rfl
  have d8_30 := blk_cell hD8 (j := 30) rfl
  have d8_31 := blk_cell hD8 (j := 31) rfl
  have d8_32 := blk_cell hD8 (j := 32) rfl
  have d8_33 := blk_cell hD8 (j := 33) rfl
  have d8_34 := blk_cell hD8 (j := 34) rfl
  have d8_35 := blk_cell hD8 (j := 35) rfl
  have d8_36 := blk_cell hD8 (j := 36) rfl
  have d8_37 := blk_cell hD8 (j := 37) rfl
  have z8_26 := blk_free hD8 26
  have z8_27 := blk_free hD8 27
  have z8_28 := blk_free hD8 28
  have z8_29 := blk_free hD8 29
  have z8_30 := blk_free hD8 30
  have z8_31 := blk_free hD8 31
  have z8_32 := blk_free hD8 32
  have z8_33 := blk_free hD8 33
  have z8_34 := blk_free hD8 34
  have z8_35 := blk_free hD8 35
  have z8_36 := blk_free hD8 36
  have z8_37 := blk_free hD8 37
  have hr8_0 : w.heap.size < w8.heap.size := (Array.getElem?_eq_some_iff.1 hS8).1
  have hr8_1 : w.heap.size + 1 < w8.heap.size := (Array.getElem?_eq_some_iff.1 hR8).1
  have hr8_2 : w.heap.size + 1 + 1 < w8.heap.size := (Array.getElem?_eq_some_iff.1 hD8).1
  clear hm8 hS7 hR7 hD7 hM7 hr7_0 hr7_1 hr7_2 c7_25 c7_26 c7_27 c7_28 c7_29 c7_30 c7_31 c7_32 c7_33 c7_34 c7_35 c7_36 c7_37 d7_23 z7_23 d7_24 z7_24 d7_25 z7_25
  go_wp2_with fail
  refine (toSides_any x.inset _).mono ?_
  rintro e w9 ⟨rfl, hm9⟩
  have hM9 : Mod (fun _ => False) w w9 := by (repeat (first | with_reducible exact Mod.refl _ _ | with_reducible refine Mod.drewN ?_ _ | with_reducible refine Mod.drew ?_ | with_reducible refine Mod.alloc ?_ _ | ((with_reducible refine Mod.setNew ?_ ?_ _ _ _); (rotate_left; omega)) | with_reducible refine Mod.setAt ?_ _ _ _ | with_reducible exact hm9 | with_reducible refine Mod.thenNone ?_ hm9 | with_reducible exact hM8 | with_reducible refine Mod.thenNone ?_ hM8 ))
  have hS9 := hm9.blk (set_far (set_far (set_far (set_far (set_far (set_far (set_far (set_far (set_far (set_far (set_far (set_far hS8 (by omega)) (by omega)) (by omega)) (by omega)) (by omega)) (by omega)) (by omega)) (by omega)) (by omega)) (by omega)) (by omega)) (by omega)) (fun f => f)
  have hR9 := hm9.blk (set_far (set_far (set_far (set_far (set_far (set_far (set_far (set_far (set_far (set_far (set_far (set_far hR8 (by omega)) (by omega)) (by omega)) (by omega)) (by omega)) (by omega)) (by omega)) (by omega)) (by omega)) (by omega)) (by omega)) (by omega)) (fun f => f)
  have hD9 : w9.heap[w.heap.size + 1 + 1]? = some (.cells #[.int .i64 x.dir, .int .i64 x.wrap, .int .i64 x.justify, .int .i64 x.items, .int .i64 x.self, .int .i64 x.content, .bool x.apart, .bool x.hidden, .int .i64 x.order, .int .i64 x.grow, .int .i64 x.shrink, .int .i64 x.basis.kind, .int .i64 x.basis.n, .int .i64 x.width.kind, .int .i64 x.width.n, .int .i64 x.height.kind, .int .i64 x.height.n, .int .i64 x.minWidth.kind, .int .i64 x.minWidth.n, .int .i64 x.minHeight.kind, .int .i64 x.minHeight.n, .int .i64 x.maxWidth.kind, .int .i64 x.maxWidth.n, .int .i64 x.maxHeight.kind, .int .i64 x.maxHeight.n, .int .i64 x.ratio, .int .i64 x.margin.left.kind, .int .i64 x.margin.left.n, .int .i64 x.margin.top.kind, .int .i64 x.margin.top.n, .int .i64 x.margin.right.kind, .int .i64 x.margin.right.n, .int .i64 x.margin.bottom.kind, .int .i64 x.margin.bottom.n, .int .i64 x.margin.start.kind, .int .i64 x.margin.start.n, .int .i64 x.margin.stop.kind, .int .i64 x.margin.stop.n, .int .i64 0, .int .i64 0, .int .i64 0, .int .i64 0, .int .i64 0, .int .i64 0, .int .i64 0, .int .i64 0, .int .i64 0, .int .i64 0, .int .i64 0, .int .i64 0, .int .i64 0, .int .i64 0, .int .i64 0, .int .i64 0, .int .i64 0, .int .i64 0, .int .i64 0, .int .i64 0, .int .i64 0, .int .i64 0] 80 (0, 0)) := hm9.blk (set_in (set_in (set_in (set_in (set_in (set_in (set_in (set_in (set_in (set_in (set_in (set_in hD8)))))))))))) (fun f => f)
  have c9_50 := blk_cell hS9 (j := 50) rfl
  have c9_51 := blk_cell hS9 (j := 51) rfl
  have c9_52 := blk_cell hS9 (j := 52) rfl
  have c9_53 := blk_cell hS9 (j := 53) rfl
  have d9_38 := blk_cell hD9 (j := 38) rfl
  have d9_39 := blk_cell hD9 (j := 39) rfl
  have d9_40 := blk_cell hD9 (j := 40) rfl
  have d9_41 := blk_cell hD9 (j := 41) rfl
  have d9_42 := blk_cell hD9 (j := 42) rfl
  have d9_43 := blk_cell hD9 (j := 43) rfl
  have d9_44 := blk_cell hD9 (j := 44) rfl
  have d9_45 := blk_cell hD9 (j := 45) rfl
  have d9_46 := blk_cell hD9 (j := 46) rfl
  have d9_47 := blk_cell hD9 (j := 47) rfl
  have d9_48 := blk_cell hD9 (j := 48) rfl
  have d9_49 := blk_cell hD9 (j := 49) rfl
  have z9_38 := blk_free hD9 38
  have z9_39 := blk_free hD9 39
  have z9_40 := blk_free hD9 40
  have z9_41 := blk_free hD9 41
  have z9_42 := blk_free hD9 42
  have z9_43 := blk_free hD9 43
  have z9_44 := blk_free hD9 44
  have z9_45 := blk_free hD9 45
  have z9_46 := blk_free hD9 46
  have z9_47 := blk_free hD9 47
  have z9_48 := blk_free hD9 48
  have z9_49 := blk_free hD9 49
  have hr9_0 : w.heap.size < w9.heap.size := (Array.getElem?_eq_some_iff.1 hS9).1
  have hr9_1 : w.heap.size + 1 < w9.heap.size := (Array.getElem?_eq_some_iff.1 hR9).1
  have hr9_2 : w.heap.size + 1 + 1 < w9.heap.size := (Array.getElem?_eq_some_iff.1 hD9).1
  clear hm9 hS8 hR8 hD8 hM8 hr8_0 hr8_1 hr8_2 c8_38 c8_39 c8_40 c8_41 c8_42 c8_43 c8_44 c8_45 c8_46 c8_47 c8_48 c8_49 d8_26 z8_26 d8_27 z8_27 d8_28 z8_28 d8_29 z8_29 d8_30 z8_30 d8_31 z8_31 d8_32 z8_32 d8_33 z8_33 d8_34 z8_34 d8_35 z8_35 d8_36 z8_36 d8_37 z8_37
  go_wp2_with fail
  refine (toEdges_any x.pad _).mono ?_
  rintro e w10 ⟨rfl, hm10⟩
  have hM10 : Mod (fun _ => False) w w10 := by (repeat (first | with_reducible exact Mod.refl _ _ | with_reducible refine Mod.drewN ?_ _ | with_reducible refine Mod.drew ?_ | with_reducible refine Mod.alloc ?_ _ | ((with_reducible refine Mod.setNew ?_ ?_ _ _ _); (rotate_left; omega)) | with_reducible refine Mod.setAt ?_ _ _ _ | with_reducible exact hm10 | with_reducible refine Mod.thenNone ?_ hm10 | with_reducible exact hM9 | with_reducible refine Mod.thenNone ?_ hM9 ))
  have hS10 := hm10.blk (set_far (set_far (set_far (set_far (set_far (set_far (set_far (set_far (set_far (set_far (set_far (set_far hS9 (by omega)) (by omega)) (by omega)) (by omega)) (by omega)) (by omega)) (by omega)) (by omega)) (by omega)) (by omega)) (by omega)) (by omega)) (fun f => f)
  have hR10 := hm10.blk (set_far (set_far (set_far (set_far (set_far (set_far (set_far (set_far (set_far (set_far (set_far (set_far hR9 (by omega)) (by omega)) (by omega)) (by omega)) (by omega)) (by omega)) (by omega)) (by omega)) (by omega)) (by omega)) (by omega)) (by omega)) (fun f => f)
  have hD10 : w10.heap[w.heap.size + 1 + 1]? = some (.cells #[.int .i64 x.dir, .int .i64 x.wrap, .int .i64 x.justify, .int .i64 x.items, .int .i64 x.self, .int .i64 x.content, .bool x.apart, .bool x.hidden, .int .i64 x.order, .int .i64 x.grow, .int .i64 x.shrink, .int .i64 x.basis.kind, .int .i64 x.basis.n, .int .i64 x.width.kind, .int .i64 x.width.n, .int .i64 x.height.kind, .int .i64 x.height.n, .int .i64 x.minWidth.kind, .int .i64 x.minWidth.n, .int .i64 x.minHeight.kind, .int .i64 x.minHeight.n, .int .i64 x.maxWidth.kind, .int .i64 x.maxWidth.n, .int .i64 x.maxHeight.kind, .int .i64 x.maxHeight.n, .int .i64 x.ratio, .int .i64 x.margin.left.kind, .int .i64 x.margin.left.n, .int .i64 x.margin.top.kind, .int .i64 x.margin.top.n, .int .i64 x.margin.right.kind, .int .i64 x.margin.right.n, .int .i64 x.margin.bottom.kind, .int .i64 x.margin.bottom.n, .int .i64 x.margin.start.kind, .int .i64 x.margin.start.n, .int .i64 x.margin.stop.kind, .int .i64 x.margin.stop.n, .int .i64 x.inset.left.kind, .int .i64 x.inset.left.n, .int .i64 x.inset.top.kind, .int .i64 x.inset.top.n, .int .i64 x.inset.right.kind, .int .i64 x.inset.right.n, .int .i64 x.inset.bottom.kind, .int .i64 x.inset.bottom.n, .int .i64 x.inset.start.kind, .int .i64 x.inset.start.n, .int .i64 x.inset.stop.kind, .int .i64 x.inset.stop.n, .int .i64 0, .int .i64 0, .int .i64 0, .int .i64 0, .int .i64 0, .int .i64 0, .int .i64 0, .int .i64 0, .int .i64 0, .int .i64 0] 80 (0, 0)) := hm10.blk (set_in (set_in (set_in (set_in (set_in (set_in (set_in (set_in (set_in (set_in (set_in (set_in hD9)))))))))))) (fun f => f)
  have c10_54 := blk_cell hS10 (j := 54) rfl
  have c10_55 := blk_cell hS10 (j := 55) rfl
  have c10_56 := blk_cell hS10 (j := 56) rfl
  have c10_57 := blk_cell hS10 (j := 57) rfl
  have d10_50 := blk_cell hD10 (j := 50) rfl
  have d10_51 := blk_cell hD10 (j := 51) rfl
  have d10_52 := blk_cell hD10 (j := 52) rfl
  have d10_53 := blk_cell hD10 (j := 53) rfl
  have z10_50 := blk_free hD10 50
  have z10_51 := blk_free hD10 51
  have z10_52 := blk_free hD10 52
  have z10_53 := blk_free hD10 53
  have hr10_0 : w.heap.size < w10.heap.size := (Array.getElem?_eq_some_iff.1 hS10).1
  have hr10_1 : w.heap.size + 1 < w10.heap.size := (Array.getElem?_eq_some_iff.1 hR10).1
  have hr10_2 : w.heap.size + 1 + 1 < w10.heap.size := (Array.getElem?_eq_some_iff.1 hD10).1
  clear hm10 hS9 hR9 hD9 hM9 hr9_0 hr9_1 hr9_2 c9_50 c9_51 c9_52 c9_53 d9_38 z9_38 d9_39 z9_39 d9_40 z9_40 d9_41 z9_41 d9_42 z9_42 d9_43 z9_43 d9_44 z9_44 d9_45 z9_45 d9_46 z9_46 d9_47 z9_47 d9_48 z9_48 d9_49 z9_49
  go_wp2_with fail
  refine (toEdges_any x.border _).mono ?_
  rintro e w11 ⟨rfl, hm11⟩
  have hM11 : Mod (fun _ => False) w w11 := by (repeat (first | with_reducible exact Mod.refl _ _ | with_reducible refine Mod.drewN ?_ _ | with_reducible refine Mod.drew ?_ | with_reducible refine Mod.alloc ?_ _ | ((with_reducible refine Mod.setNew ?_ ?_ _ _ _); (rotate_left; omega)) | with_reducible refine Mod.setAt ?_ _ _ _ | with_reducible exact hm11 | with_reducible refine Mod.thenNone ?_ hm11 | with_reducible exact hM10 | with_reducible refine Mod.thenNone ?_ hM10 ))
  have hS11 := hm11.blk (set_far (set_far (set_far (set_far hS10 (by omega)) (by omega)) (by omega)) (by omega)) (fun f => f)
  have hR11 := hm11.blk (set_far (set_far (set_far (set_far hR10 (by omega)) (by omega)) (by omega)) (by omega)) (fun f => f)
  have hD11 : w11.heap[w.heap.size + 1 + 1]? = some (.cells #[.int .i64 x.dir, .int .i64 x.wrap, .int .i64 x.justify, .int .i64 x.items, .int .i64 x.self, .int .i64 x.content, .bool x.apart, .bool x.hidden, .int .i64 x.order, .int .i64 x.grow, .int .i64 x.shrink, .int .i64 x.basis.kind, .int .i64 x.basis.n, .int .i64 x.width.kind, .int .i64 x.width.n, .int .i64 x.height.kind, .int .i64 x.height.n, .int .i64 x.minWidth.kind, .int .i64 x.minWidth.n, .int .i64 x.minHeight.kind, .int .i64 x.minHeight.n, .int .i64 x.maxWidth.kind, .int .i64 x.maxWidth.n, .int .i64 x.maxHeight.kind, .int .i64 x.maxHeight.n, .int .i64 x.ratio, .int .i64 x.margin.left.kind, .int .i64 x.margin.left.n, .int .i64 x.margin.top.kind, .int .i64 x.margin.top.n, .int .i64 x.margin.right.kind, .int .i64 x.margin.right.n, .int .i64 x.margin.bottom.kind, .int .i64 x.margin.bottom.n, .int .i64 x.margin.start.kind, .int .i64 x.margin.start.n, .int .i64 x.margin.stop.kind, .int .i64 x.margin.stop.n, .int .i64 x.inset.left.kind, .int .i64 x.inset.left.n, .int .i64 x.inset.top.kind, .int .i64 x.inset.top.n, .int .i64 x.inset.right.kind, .int .i64 x.inset.right.n, .int .i64 x.inset.bottom.kind, .int .i64 x.inset.bottom.n, .int .i64 x.inset.start.kind, .int .i64 x.inset.start.n, .int .i64 x.inset.stop.kind, .int .i64 x.inset.stop.n, .int .i64 x.pad.left, .int .i64 x.pad.top, .int .i64 x.pad.right, .int .i64 x.pad.bottom, .int .i64 0, .int .i64 0, .int .i64 0, .int .i64 0, .int .i64 0, .int .i64 0] 80 (0, 0)) := hm11.blk (set_in (set_in (set_in (set_in hD10)))) (fun f => f)
  have c11_58 := blk_cell hS11 (j := 58) rfl
  have c11_59 := blk_cell hS11 (j := 59) rfl
  have d11_54 := blk_cell hD11 (j := 54) rfl
  have d11_55 := blk_cell hD11 (j := 55) rfl
  have d11_56 := blk_cell hD11 (j := 56) rfl
  have d11_57 := blk_cell hD11 (j := 57) rfl
  have d11_58 := blk_cell hD11 (j := 58) rfl
  have d11_59 := blk_cell hD11 (j := 59) rfl
  have z11_54 := blk_free hD11 54
  have z11_55 := blk_free hD11 55
  have z11_56 := blk_free hD11 56
  have z11_57 := blk_free hD11 57
  have z11_58 := blk_free hD11 58
  have z11_59 := blk_free hD11 59
  have hY : w11.heap[w.heap.size + 1 + 1]? = some (.cells (Style.cells { x with border := ⟨0, 0, 0, 0⟩, rowGap := 0, colGap := 0 }).toArray 80 (0, 0)) := hD11
  obtain ⟨hq0, hq1, _⟩ := row_blk hY 0 60 (by rw [Style.len]; omega)
  obtain ⟨hq2, _, hq3⟩ := row_blk (l := Style.cells default) hR11 0 60 (by rw [Style.len]; omega)
  rw [List.drop_zero, List.take_of_length_le (by rw [Style.len]; omega)] at hq1
  clear hY
  have hr11_0 : w.heap.size < w11.heap.size := (Array.getElem?_eq_some_iff.1 hS11).1
  have hr11_1 : w.heap.size + 1 < w11.heap.size := (Array.getElem?_eq_some_iff.1 hR11).1
  have hr11_2 : w.heap.size + 1 + 1 < w11.heap.size := (Array.getElem?_eq_some_iff.1 hD11).1
  clear hm11 hS10 hR10 hD10 hM10 hr10_0 hr10_1 hr10_2 c10_54 c10_55 c10_56 c10_57 d10_50 z10_50 d10_51 z10_51 d10_52 z10_52 d10_53 z10_53
  clear hS11 hR11 hD11
  dsimp only
  repeat (go_step)
  refine bodyPost_ret (v := .agg (Style.cells x).toArray) ?_ ?_ ?_
  · refine results_row (r := Style.cells x) (b := w.heap.size + 1) Tryz.results107 ?_ Tryz.underlying80 rfl (by kernel_rfl) ?_
    · rfl
    · refine range_setCells (r := Style.cells x) ?_
      simp only [hasRow_setCell, Style.len, hq2]
  · rfl
  · refine ⟨rfl, ?_⟩
    refine Mod.setCellsNew ?_ (by omega) _ _
    iterate 6 refine Mod.setNew ?_ (by omega) _ _ _
    exact hM11

end Go.Proofs.YtpkpkojmaebflaaGreatDoor
namespace Go.Proofs.YtpkpkojmaebflaaGreatDoor
open Go.RowKit

set_option maxRecDepth 100000 in
set_option maxHeartbeats 8000000 in
theorem eqStyle_same (x : Style) (w : World) : Calls Tryz.prog 122 #[.agg #[.int .i64 x.dir, .int .i64 x.wrap, .int .i64 x.justify, .int .i64 x.items, .int .i64 x.self, .int .i64 x.content, .bool x.apart, .bool x.hidden, .int .i64 x.order, .int .i64 x.grow, .int .i64 x.shrink, .int .i64 x.basis.kind, .int .i64 x.basis.n, .int .i64 x.width.kind, .int .i64 x.width.n, .int .i64 x.height.kind, .int .i64 x.height.n, .int .i64 x.minWidth.kind, .int .i64 x.minWidth.n, .int .i64 x.minHeight.kind, .int .i64 x.minHeight.n, .int .i64 x.maxWidth.kind, .int .i64 x.maxWidth.n, .int .i64 x.maxHeight.kind, .int .i64 x.maxHeight.n, .int .i64 x.ratio, .int .i64 x.margin.left.kind, .int .i64 x.margin.left.n, .int .i64 x.margin.top.kind, .int .i64 x.margin.top.n, .int .i64 x.margin.right.kind, .int .i64 x.margin.right.n, .int .i64 x.margin.bottom.kind, .int .i64 x.margin.bottom.n, .int .i64 x.margin.start.kind, .int .i64 x.margin.start.n, .int .i64 x.margin.stop.kind, .int .i64 x.margin.stop.n, .int .i64 x.inset.left.kind, .int .i64 x.inset.left.n, .int .i64 x.inset.top.kind, .int .i64 x.inset.top.n, .int .i64 x.inset.right.kind, .int .i64 x.inset.right.n, .int .i64 x.inset.bottom.kind, .int .i64 x.inset.bottom.n, .int .i64 x.inset.start.kind, .int .i64 x.inset.start.n, .int .i64 x.inset.stop.kind, .int .i64 x.inset.stop.n, .int .i64 x.pad.left, .int .i64 x.pad.top, .int .i64 x.pad.right, .int .i64 x.pad.bottom, .int .i64 x.border.left, .int .i64 x.border.top, .int .i64 x.border.right, .int .i64 x.border.bottom, .int .i64 x.rowGap, .int .i64 x.colGap], .agg #[.int .i64 x.dir, .int .i64 x.wrap, .int .i64 x.justify, .int .i64 x.items, .int .i64 x.self, .int .i64 x.content, .bool x.apart, .bool x.hidden, .int .i64 x.order, .int .i64 x.grow, .int .i64 x.shrink, .int .i64 x.basis.kind, .int .i64 x.basis.n, .int .i64 x.width.kind, .int .i64 x.width.n, .int .i64 x.height.kind, .int .i64 x.height.n, .int .i64 x.minWidth.kind, .int .i64 x.minWidth.n, .int .i64 x.minHeight.kind, .int .i64 x.minHeight.n, .int .i64 x.maxWidth.kind, .int .i64 x.maxWidth.n, .int .i64 x.maxHeight.kind, .int .i64 x.maxHeight.n, .int .i64 x.ratio, .int .i64 x.margin.left.kind, .int .i64 x.margin.left.n, .int .i64 x.margin.top.kind, .int .i64 x.margin.top.n, .int .i64 x.margin.right.kind, .int .i64 x.margin.right.n, .int .i64 x.margin.bottom.kind, .int .i64 x.margin.bottom.n, .int .i64 x.margin.start.kind, .int .i64 x.margin.start.n, .int .i64 x.margin.stop.kind, .int .i64 x.margin.stop.n, .int .i64 x.inset.left.kind, .int .i64 x.inset.left.n, .int .i64 x.inset.top.kind, .int .i64 x.inset.top.n, .int .i64 x.inset.right.kind, .int .i64 x.inset.right.n, .int .i64 x.inset.bottom.kind, .int .i64 x.inset.bottom.n, .int .i64 x.inset.start.kind, .int .i64 x.inset.start.n, .int .i64 x.inset.stop.kind, .int .i64 x.inset.stop.n, .int .i64 x.pad.left, .int .i64 x.pad.top, .int .i64 x.pad.right, .int .i64 x.pad.bottom, .int .i64 x.border.left, .int .i64 x.border.top, .int .i64 x.border.right, .int .i64 x.border.bottom, .int .i64 x.rowGap, .int .i64 x.colGap]] w fun e w' => e = .returned (.bool true) ∧ Mod (fun _ => False) w w' := by
  go_enter Tryz.func122, Tryz.ntmps122
  go_wp2_with fail
  refine (eqValue_any x.basis x.basis _).mono ?_
  rintro e w1 ⟨rfl, hm1⟩
  rw [decide_eq_true rfl]
  have hM1 : Mod (fun _ => False) w w1 := by (repeat (first | with_reducible exact Mod.refl _ _ | with_reducible refine Mod.drewN ?_ _ | with_reducible refine Mod.drew ?_ | with_reducible refine Mod.alloc ?_ _ | ((with_reducible refine Mod.setNew ?_ ?_ _ _ _); (rotate_left; omega)) | with_reducible refine Mod.setAt ?_ _ _ _ | with_reducible exact hm1 | with_reducible refine Mod.thenNone ?_ hm1 ))
  have hA1 := hm1.blk (al2a _ _ _) (fun f => f)
  have hB1 := hm1.blk (al2b _ _ _) (fun f => f)
  have c1_13 := blk_cell hA1 (j := 13) rfl
  have d1_13 := blk_cell hB1 (j := 13) rfl
  have c1_14 := blk_cell hA1 (j := 14) rfl
  have d1_14 := blk_cell hB1 (j := 14) rfl
  have hr1_0 : w.heap.size < w1.heap.size := (Array.getElem?_eq_some_iff.1 hA1).1
  have hr1_1 : w.heap.size + 1 < w1.heap.size := (Array.getElem?_eq_some_iff.1 hB1).1
  clear hm1
  go_wp2_with fail
  refine (eqValue_any x.width x.width _).mono ?_
  rintro e w2 ⟨rfl, hm2⟩
  rw [decide_eq_true rfl]
  have hM2 : Mod (fun _ => False) w w2 := hM1.thenNone hm2
  have hA2 := hm2.blk hA1 (fun f => f)
  have hB2 := hm2.blk hB1 (fun f => f)
  have c2_15 := blk_cell hA2 (j := 15) rfl
  have d2_15 := blk_cell hB2 (j := 15) rfl
  have c2_16 := blk_cell hA2 (j := 16) rfl
  have d2_16 := blk_cell hB2 (j := 16) rfl
  have hr2_0 : w.heap.size < w2.heap.size := (Array.getElem?_eq_some_iff.1 hA2).1
  have hr2_1 : w.heap.size + 1 < w2.heap.size := (Array.getElem?_eq_some_iff.1 hB2).1
  clear hm2 hA1 hB1 hM1 hr1_0 hr1_1 c1_13 d1_13 c1_14 d1_14
  go_wp2_with fail
  refine (eqValue_any x.height x.height _).mono ?_
  rintro e w3 ⟨rfl, hm3⟩
  rw [decide_eq_true rfl]
  have hM3 : Mod (fun _ => False) w w3 := hM2.thenNone hm3
  have hA3 := hm3.blk hA2 (fun f => f)
  have hB3 := hm3.blk hB2 (fun f => f)
  have c3_17 := blk_cell hA3 (j := 17) rfl
  have d3_17 := blk_cell hB3 (j := 17) rfl
  have c3_18 := blk_cell hA3 (j := 18) rfl
  have d3_18 := blk_cell hB3 (j := 18) rfl
  have hr3_0 : w.heap.size < w3.heap.size := (Array.getElem?_eq_some_iff.1 hA3).1
  have hr3_1 : w.heap.size + 1 < w3.heap.size := (Array.getElem?_eq_some_iff.1 hB3).1
  clear hm3 hA2 hB2 hM2 hr2_0 hr2_1 c2_15 d2_15 c2_16 d2_16
  go_wp2_with fail
  refine (eqValue_any x.minWidth x.minWidth _).mono ?_
  rintro e w4 ⟨rfl, hm4⟩
  rw [decide_eq_true rfl]
  have hM4 : Mod (fun _ => False) w w4 := hM3.thenNone hm4
  have hA4 := hm4.blk hA3 (fun f => f)
  have hB4 := hm4.blk hB3 (fun f => f)
  have c4_19 := blk_cell hA4 (j := 19) rfl
  have d4_19 := blk_cell hB4 (j := 19) rfl
  have c4_20 := blk_cell hA4 (j := 20) rfl
  have d4_20 := blk_cell hB4 (j := 20) rfl
  have hr4_0 : w.heap.size < w4.heap.size := (Array.getElem?_eq_some_iff.1 hA4).1
  have hr4_1 : w.heap.size + 1 < w4.heap.size := (Array.getElem?_eq_some_iff.1 hB4).1
  clear hm4 hA3 hB3 hM3 hr3_0 hr3_1 c3_17 d3_17 c3_18 d3_18
  go_wp2_with fail
  refine (eqValue_any x.minHeight x.minHeight _).mono ?_
  rintro e w5 ⟨rfl, hm5⟩
  rw [decide_eq_true rfl]
  have hM5 : Mod (fun _ => False) w w5 := hM4.thenNone hm5
  have hA5 := hm5.blk hA4 (fun f => f)
  have hB5 := hm5.blk hB4 (fun f => f)
  have c5_21 := blk_cell hA5 (j := 21) rfl
  have d5_21 := blk_cell hB5 (j := 21) rfl
  have c5_22 := blk_cell hA5 (j := 22) rfl
  have d5_22 := blk_cell hB5 (j := 22) rfl
  have hr5_0 : w.heap.size < w5.heap.size := (Array.getElem?_eq_some_iff.1 hA5).1
  have hr5_1 : w.heap.size + 1 < w5.heap.size := (Array.getElem?_eq_some_iff.1 hB5).1
  clear hm5 hA4 hB4 hM4 hr4_0 hr4_1 c4_19 d4_19 c4_20 d4_20
  go_wp2_with fail
  refine (eqValue_any x.maxWidth x.maxWidth _).mono ?_
  rintro e w6 ⟨rfl, hm6⟩
  rw [decide_eq_true rfl]
  have hM6 : Mod (fun _ => False) w w6 := hM5.thenNone hm6
  have hA6 := hm6.blk hA5 (fun f => f)
  have hB6 := hm6.blk hB5 (fun f => f)
  have c6_23 := blk_cell hA6 (j := 23) rfl
  have d6_23 := blk_cell hB6 (j := 23) rfl
  have c6_24 := blk_cell hA6 (j := 24) rfl
  have d6_24 := blk_cell hB6 (j := 24) rfl
  have hr6_0 : w.heap.size < w6.heap.size := (Array.getElem?_eq_some_iff.1 hA6).1
  have hr6_1 : w.heap.size + 1 < w6.heap.size := (Array.getElem?_eq_some_iff.1 hB6).1
  clear hm6 hA5 hB5 hM5 hr5_0 hr5_1 c5_21 d5_21 c5_22 d5_22
  go_wp2_with fail
  refine (eqValue_any x.maxHeight x.maxHeight _).mono ?_
  rintro e w7 ⟨rfl, hm7⟩
  rw [decide_eq_true rfl]
  have hM7 : Mod (fun _ => False) w w7 := hM6.thenNone hm7
  have hA7 := hm7.blk hA6 (fun f => f)
  have hB7 := hm7.blk hB6 (fun f => f)
  have c7_25 := blk_cell hA7 (j := 25) rfl
  have d7_25 := blk_cell hB7 (j := 25) rfl
  have c7_26 := blk_cell hA7 (j := 26) rfl
  have d7_26 := blk_cell hB7 (j := 26) rfl
  have c7_27 := blk_cell hA7 (j := 27) rfl
  have d7_27 := blk_cell hB7 (j := 27) rfl
  have c7_28 := blk_cell hA7 (j := 28) rfl
  have d7_28 := blk_cell hB7 (j := 28) rfl
  have c7_29 := blk_cell hA7 (j := 29) rfl
  have d7_29 := blk_cell hB7 (j := 29) rfl
  have c7_30 := blk_cell hA7 (j := 30) rfl
  have d7_30 := blk_cell hB7 (j := 30) rfl
  have c7_31 := blk_cell hA7 (j := 31) rfl
  have d7_31 := blk_cell hB7 (j := 31) rfl
  have c7_32 := blk_cell hA7 (j := 32) rfl
  have d7_32 := blk_cell hB7 (j := 32) rfl
  have c7_33 := blk_cell hA7 (j := 33) rfl
  have d7_33 := blk_cell hB7 (j := 33) rfl
  have c7_34 := blk_cell hA7 (j := 34) rfl
  have d7_34 := blk_cell hB7 (j := 34) rfl
  have c7_35 := blk_cell hA7 (j := 35) rfl
  have d7_35 := blk_cell hB7 (j := 35) rfl
  have c7_36 := blk_cell hA7 (j := 36) rfl
  have d7_36 := blk_cell hB7 (j := 36) rfl
  have c7_37 := blk_cell hA7 (j := 37) rfl
  have d7_37 := blk_cell hB7 (j := 37) rfl
  have hr7_0 : w.heap.size < w7.heap.size := (Array.getElem?_eq_some_iff.1 hA7).1
  have hr7_1 : w.heap.size + 1 < w7.heap.size := (Array.getElem?_eq_some_iff.1 hB7).1
  clear hm7 hA6 hB6 hM6 hr6_0 hr6_1 c6_23 d6_23 c6_24 d6_24
  go_wp2_with fail
  refine (eqSides_same x.margin _).mono ?_
  rintro e w8 ⟨rfl, hm8⟩
  have hM8 : Mod (fun _ => False) w w8 := hM7.thenNone hm8
  have hA8 := hm8.blk hA7 (fun f => f)
  have hB8 := hm8.blk hB7 (fun f => f)
  have c8_38 := blk_cell hA8 (j := 38) rfl
  have d8_38 := blk_cell hB8 (j := 38) rfl
  have c8_39 := blk_cell hA8 (j := 39) rfl
  have d8_39 := blk_cell hB8 (j := 39) rfl
  have c8_40 := blk_cell hA8 (j := 40) rfl
  have d8_40 := blk_cell hB8 (j := 40) rfl
  have c8_41 := blk_cell hA8 (j := 41) rfl
  have d8_41 := blk_cell hB8 (j := 41) rfl
  have c8_42 := blk_cell hA8 (j := 42) rfl
  have d8_42 := blk_cell hB8 (j := 42) rfl
  have c8_43 := blk_cell hA8 (j := 43) rfl
  have d8_43 := blk_cell hB8 (j := 43) rfl
  have c8_44 := blk_cell hA8 (j := 44) rfl
  have d8_44 := blk_cell hB8 (j := 44) rfl
  have c8_45 := blk_cell hA8 (j := 45) rfl
  have d8_45 := blk_cell hB8 (j := 45) rfl
  have c8_46 := blk_cell hA8 (j := 46) rfl
  have d8_46 := blk_cell hB8 (j := 46) rfl
  have c8_47 := blk_cell hA8 (j := 47) rfl
  have d8_47 := blk_cell hB8 (j := 47) rfl
  have c8_48 := blk_cell hA8 (j := 48) rfl
  have d8_48 := blk_cell hB8 (j := 48) rfl
  have c8_49 := blk_cell hA8 (j := 49) rfl
  have d8_49 := blk_cell hB8 (j := 49) rfl
  have hr8_0 : w.heap.size < w8.heap.size := (Array.getElem?_eq_some_iff.1 hA8).1
  have hr8_1 : w.heap.size + 1 < w8.heap.size := (Array.getElem?_eq_some_iff.1 hB8).1
  clear hm8 hA7 hB7 hM7 hr7_0 hr7_1 c7_25 d7_25 c7_26 d7_26 c7_27 d7_27 c7_28 d7_28 c7_29 d7_29 c7_30 d7_30 c7_31 d7_31 c7_32 d7_32 c7_33 d7_33 c7_34 d7_34 c7_35 d7_35 c7_36 d7_36 c7_37 d7_37
  go_wp2_with fail
  refine (eqSides_same x.inset _).mono ?_
  rintro e w9 ⟨rfl, hm9⟩
  have hM9 : Mod (fun _ => False) w w9 := hM8.thenNone hm9
  have hA9 := hm9.blk hA8 (fun f => f)
  have hB9 := hm9.blk hB8 (fun f => f)
  have c9_50 := blk_cell hA9 (j := 50) rfl
  have d9_50 := blk_cell hB9 (j := 50) rfl
  have c9_51 := blk_cell hA9 (j := 51) rfl
  have d9_51 := blk_cell hB9 (j := 51) rfl
  have c9_52 := blk_cell hA9 (j := 52) rfl
  have d9_52 := blk_cell hB9 (j := 52) rfl
  have c9_53 := blk_cell hA9 (j := 53) rfl
  have d9_53 := blk_cell hB9 (j := 53) rfl
  have hr9_0 : w.heap.size < w9.heap.size := (Array.getElem?_eq_some_iff.1 hA9).1
  have hr9_1 : w.heap.size + 1 < w9.heap.size := (Array.getElem?_eq_some_iff.1 hB9).1
  clear hm9 hA8 hB8 hM8 hr8_0 hr8_1 c8_38 d8_38 c8_39 d8_39 c8_40 d8_40 c8_41 d8_41 c8_42 d8_42 c8_43 d8_43 c8_44 d8_44 c8_45 d8_45 c8_46 d8_46 c8_47 d8_47 c8_48 d8_48 c8_49 d8_49
  go_wp2_with fail
  refine (eqEdges_same x.pad _).mono ?_
  rintro e w10 ⟨rfl, hm10⟩
  have hM10 : Mod (fun _ => False) w w10 := hM9.thenNone hm10
  have hA10 := hm10.blk hA9 (fun f => f)
  have hB10 := hm10.blk hB9 (fun f => f)
  have c10_54 := blk_cell hA10 (j := 54) rfl
  have d10_54 := blk_cell hB10 (j := 54) rfl
  have c10_55 := blk_cell hA10 (j := 55) rfl
  have d10_55 := blk_cell hB10 (j := 55) rfl
  have c10_56 := blk_cell hA10 (j := 56) rfl
  have d10_56 := blk_cell hB10 (j := 56) rfl
  have c10_57 := blk_cell hA10 (j := 57) rfl
  have d10_57 := blk_cell hB10 (j := 57) rfl
  have hr10_0 : w.heap.size < w10.heap.size := (Array.getElem?_eq_some_iff.1 hA10).1
  have hr10_1 : w.heap.size + 1 < w10.heap.size := (Array.getElem?_eq_some_iff.1 hB10).1
  clear hm10 hA9 hB9 hM9 hr9_0 hr9_1 c9_50 d9_50 c9_51 d9_51 c9_52 d9_52 c9_53 d9_53
  go_wp2_with fail
  refine (eqEdges_same x.border _).mono ?_
  rintro e w11 ⟨rfl, hm11⟩
  have hM11 : Mod (fun _ => False) w w11 := hM10.thenNone hm11
  have hA11 := hm11.blk hA10 (fun f => f)
  have hB11 := hm11.blk hB10 (fun f => f)
  have c11_58 := blk_cell hA11 (j := 58) rfl
  have d11_58 := blk_cell hB11 (j := 58) rfl
  have c11_59 := blk_cell hA11 (j := 59) rfl
  have d11_59 := blk_cell hB11 (j := 59) rfl
  have hr11_0 : w.heap.size < w11.heap.size := (Array.getElem?_eq_some_iff.1 hA11).1
  have hr11_1 : w.heap.size + 1 < w11.heap.size := (Array.getElem?_eq_some_iff.1 hB11).1
  clear hm11 hA10 hB10 hM10 hr10_0 hr10_1 c10_54 d10_54 c10_55 d10_55 c10_56 d10_56 c10_57 d10_57
  clear hA11 hB11
  go_wp2
  go_ret
  exact ⟨rfl, hM11⟩

end Go.Proofs.YtpkpkojmaebflaaGreatDoor
namespace Go.Proofs.YtpkpkojmaebflaaGreatDoor
open Go.RowKit

theorem info_Rule : (Tryz.prog.info? 176).map (fun i => (i.zero, i.size, i.bytes)) = some (some (.agg #[.int .i64 0, .int .i64 0, .int .i64 0]), 3, 24) := by kernel_rfl

end Go.Proofs.YtpkpkojmaebflaaGreatDoor
namespace Go.Proofs.YtpkpkojmaebflaaGreatDoor
open Go.RowKit

theorem toRule_any (x : Rule) (w : World) : Calls Tryz.prog 140 #[.agg #[.int .i64 x.room, .int .i64 x.wide, .int .i64 x.high]] w fun e w' => e = .returned (.agg #[.int .i64 x.room, .int .i64 x.wide, .int .i64 x.high]) ∧ Mod (fun _ => False) w w' := by
  go_enter Tryz.func140, Tryz.ntmps140
  go_wp2
  refine bodyPost_ret (v := .agg #[.int .i64 x.room, .int .i64 x.wide, .int .i64 x.high]) (by simp [results, Tryz.results140, go_sem]) rfl ⟨rfl, by (repeat (first | with_reducible exact Mod.refl _ _ | with_reducible refine Mod.drewN ?_ _ | with_reducible refine Mod.drew ?_ | with_reducible refine Mod.alloc ?_ _ | ((with_reducible refine Mod.setNew ?_ ?_ _ _ _); (rotate_left; omega)) | with_reducible refine Mod.setAt ?_ _ _ _ ))⟩

set_option maxHeartbeats 1000000 in
theorem eqRule_any (x y : Rule) (w : World) : Calls Tryz.prog 145 #[.agg #[.int .i64 x.room, .int .i64 x.wide, .int .i64 x.high], .agg #[.int .i64 y.room, .int .i64 y.wide, .int .i64 y.high]] w fun e w' => e = .returned (.bool (decide (x = y))) ∧ Mod (fun _ => False) w w' := by
  obtain ⟨x0, x1, x2⟩ := x
  obtain ⟨y0, y1, y2⟩ := y
  go_enter Tryz.func145, Tryz.ntmps145
  go_wp2
  all_goals
    go_ret
    refine ⟨ret_bool ?_, by (repeat (first | with_reducible exact Mod.refl _ _ | with_reducible refine Mod.drewN ?_ _ | with_reducible refine Mod.drew ?_ | with_reducible refine Mod.alloc ?_ _ | ((with_reducible refine Mod.setNew ?_ ?_ _ _ _); (rotate_left; omega)) | with_reducible refine Mod.setAt ?_ _ _ _ ))⟩
    simp_all


end Go.Proofs.YtpkpkojmaebflaaGreatDoor
namespace Go.Proofs.YtpkpkojmaebflaaGreatDoor
open Go.RowKit

theorem szRuleS_any (n c : Nat) (a : Option Addr) (left : Int) (h0 : 0 ≤ left) (h1 : left ≤ 1048576) (hn : n ≤ 9223372036854775807) (w : World) : Calls Tryz.prog 126 #[.slice a n c, .int .i64 left] w fun e w' => e = .returned (.int .i64 (if left < n then -1 else left - n)) ∧ w = w' := by
  by_cases h : left < n
  · rw [if_pos h]
    have h2 : left - n < 0 := by omega
    have h3 : -9223372036854775807 ≤ left - n := by omega
    go_enter Tryz.func126, Tryz.ntmps126
    go_wp2
    go_ret
    exact ⟨rfl, rfl⟩
  · rw [if_neg h]
    have h2 : 0 ≤ left - n := by omega
    go_enter Tryz.func126, Tryz.ntmps126
    go_wp2
    go_ret
    exact ⟨rfl, rfl⟩

set_option maxRecDepth 100000 in
set_option maxHeartbeats 1000000 in
theorem toRuleS_any (l : List Rule) (a : Option Addr) (c : Nat) (R : Nat → Prop) (w : World) (hl : l.length ≤ 1048576) (h : SliceAt (Flat Rule.cells) 3 R w a l) :
    Calls Tryz.prog 131 #[.slice a l.length c] w (NewRows 176 w l.length (l.map Rule.cells).flatten) := by
  have H := hid h
  clear h
  obtain ⟨i0, hi, hz0, hz1, hz2⟩ := info_parts info_Rule
  have hmk : ∀ W : World, (Instr.makeSlice 81 (.int .i64 (l.length : Int)) (.int .i64 (l.length : Int))).run Tryz.prog W = .ok (.slice (some ⟨W.heap.size, 0, none⟩) l.length l.length) (W.alloc (.cells (madeCells (Value.cells (.agg #[.int .i64 0, .int .i64 0, .int .i64 0])) (l.length * 3)) 176)) := by
    intro W
    have := run_make (P := Tryz.prog) W 81 176 i0 _ Tryz.underlying81 hi hz0 .i64 .i64 l.length l.length (by omega) (by omega) (by rw [hz2]; omega) (by omega)
    simpa [hz1] using this
  clear hz0 hz1 hz2 hi
  go_enter Tryz.func131, Tryz.ntmps131
  go_wp2
  go_loopw [4] (fun i wr => ∃ k : Nat, k ≤ l.length ∧ i = .int .i64 k ∧ Filled w.heap.size 176 (l.length * 3) wr ((l.take k).map Rule.cells).flatten ∧ Mod (fun _ => False) w wr) (fun i _ => l.length - (intOf i).toNat)
  case atStart => exact ⟨0, by omega, rfl, Filled.made w _ _ _ (size_madeCells _ _), (Mod.refl _ w).alloc _⟩
  case round =>
    obtain ⟨k, hk, rfl, hF, hM⟩ := hrel
    clear hmk
    by_cases hlt : k < l.length
    · obtain ⟨b, o, x, r, rfl, hb, hbw, hx, hr, hrl, hc⟩ := (H.out.mod hM (fun _ _ f => f) (fun _ _ h => h)).get hlt
      obtain rfl : r = x.cells := hr
      have c0 : wr.cell? ⟨b, o + k * 3, none⟩ = _ := hc 0 _ rfl
      have c1 : wr.cell? ⟨b, o + k * 3 + 1, none⟩ = _ := hc 1 _ rfl
      have c2 : wr.cell? ⟨b, o + k * 3 + 2, none⟩ = _ := hc 2 _ rfl
      clear hc hrl
      go_wp2_with fail
      refine (toRule_any x _).mono ?_
      rintro e w1 ⟨rfl, hm1⟩
      have hF1 := hF.mod hm1 (fun f => f)
      obtain ⟨v0, d0⟩ := hF1.cell (off := k * 3) (by omega)
      obtain ⟨v1, d1⟩ := hF1.cell (off := k * 3 + 1) (by omega)
      obtain ⟨v2, d2⟩ := hF1.cell (off := k * 3 + 2) (by omega)
      have z0 := hF1.free (k * 3)
      have z1 := hF1.free (k * 3 + 1)
      have z2 := hF1.free (k * 3 + 2)
      go_wp2
      go_roundw
      case rel =>
        refine ⟨k + 1, by omega, by go_num, ?_, ?_⟩
        · have hl0 := flat_length (cells := Rule.cells) (sz := 3) (fun _ => rfl) (l.take k)
          rw [take_length_of_lt hk] at hl0
          rw [flat_succ hx]
          have e : ∀ s : List Value, s ++ x.cells = s ++ [.int .i64 x.room] ++ [.int .i64 x.wide] ++ [.int .i64 x.high] := by intro s; simp [Rule.cells]
          rw [e]
          generalize ((l.take k).map Rule.cells).flatten = s at hF1 hl0
          exact (((hF1.push (off := k * 3) (by simp [hl0]) (by omega) _).push (off := k * 3 + 1) (by simp [hl0]) (by omega) _).push (off := k * 3 + 2) (by simp [hl0]) (by omega) _)
        · have hM1 := hM.thenNone hm1
          (repeat (first | with_reducible exact Mod.refl _ _ | with_reducible refine Mod.drewN ?_ _ | with_reducible refine Mod.drew ?_ | with_reducible refine Mod.alloc ?_ _ | ((with_reducible refine Mod.setNew ?_ ?_ _ _ _); (rotate_left; omega)) | with_reducible refine Mod.setAt ?_ _ _ _ | with_reducible exact hM1 | with_reducible refine Mod.thenNone ?_ hM1 ))
      case measure => simp [intOf]; omega
    · have hk' : k = l.length := by omega
      subst hk'
      go_wp2
      go_ret
      refine ⟨w.heap.size, rfl, Nat.le_refl _, ?_, hM⟩
      rw [List.take_length] at hF
      exact hF.full (flat_length (cells := Rule.cells) (sz := 3) (fun _ => rfl) l)

set_option maxRecDepth 100000 in
set_option maxHeartbeats 1000000 in
theorem eqRuleS_any (l m : List Rule) (a a' : Option Addr) (c c' : Nat) (R S : Nat → Prop) (w : World) (hl : l.length ≤ 9223372036854775807) (_hm : m.length ≤ 9223372036854775807) (h : SliceAt (Flat Rule.cells) 3 R w a l) (h' : SliceAt (Flat Rule.cells) 3 S w a' m) :
    Calls Tryz.prog 139 #[.slice a l.length c, .slice a' m.length c'] w fun e w' => e = .returned (.bool (decide (l = m))) ∧ Mod (fun _ => False) w w' := by
  have H := hid h
  have H' := hid h'
  clear h h'
  by_cases hlen : l.length = m.length
  · have hn0 : ((l.length : Int) != (m.length : Int)) = false := by simp [hlen]
    have hn1 : l.length ≤ m.length := by omega
    have hn2 : m.length ≤ l.length := by omega
    clear hlen
    go_enter Tryz.func139, Tryz.ntmps139
    go_wp2
    go_loopw [5] (fun i wr => ∃ k : Nat, k ≤ l.length ∧ i = .int .i64 k ∧ SameTo l m k ∧ Mod (fun _ => False) w wr) (fun i _ => l.length - (intOf i).toNat)
    case atStart => exact ⟨0, by omega, rfl, rfl, Mod.refl _ _⟩
    case round =>
      obtain ⟨k, hk, rfl, hsame, hmod⟩ := hrel
      by_cases hlt : k < l.length
      · obtain ⟨b, o, x, r, rfl, hb, hbw, hx, hr, hrl, hc⟩ := (H.out.mod hmod (fun _ _ f => f) (fun _ _ h => h)).get hlt
        obtain rfl : r = x.cells := hr
        obtain ⟨b', o', y, r', rfl, hb', hbw', hy, hr', hrl', hd⟩ := (H'.out.mod hmod (fun _ _ f => f) (fun _ _ h => h)).get (show k < m.length by omega)
        obtain rfl : r' = y.cells := hr'
        have hlt2 : k < m.length := by omega
        have c0 : wr.cell? ⟨b, o + k * 3, none⟩ = _ := hc 0 _ rfl
        have d0 : wr.cell? ⟨b', o' + k * 3, none⟩ = _ := hd 0 _ rfl
        have c1 : wr.cell? ⟨b, o + k * 3 + 1, none⟩ = _ := hc 1 _ rfl
        have d1 : wr.cell? ⟨b', o' + k * 3 + 1, none⟩ = _ := hd 1 _ rfl
        have c2 : wr.cell? ⟨b, o + k * 3 + 2, none⟩ = _ := hc 2 _ rfl
        have d2 : wr.cell? ⟨b', o' + k * 3 + 2, none⟩ = _ := hd 2 _ rfl
        clear hc hd hrl hrl'
        by_cases hxy : x = y
        · have hd : decide (x = y) = true := decide_eq_true hxy
          have Hxy := hid hxy
          clear hxy
          go_wp2
          go_still_tail 8, (by kernel_rfl)
          go_wp2_with fail
          refine (eqRule_any x y _).mono ?_
          rintro e w1 ⟨rfl, hm1⟩
          go_wp2
          go_roundw
          case rel => exact ⟨k + 1, by omega, by go_num, hsame.succ hx (Hxy.out ▸ hy), hmod.drew.thenNone hm1⟩
          case measure => simp [intOf]; omega
        · have hd : decide (x = y) = false := decide_eq_false hxy
          go_wp2
          go_still_tail 8, (by kernel_rfl)
          go_wp2_with fail
          refine (eqRule_any x y _).mono ?_
          rintro e w1 ⟨rfl, hm1⟩
          go_wp2
          go_ret
          exact ⟨ret_bool (decide_eq_false (ne_at hx hy hxy)).symm, hmod.drew.thenNone hm1⟩
      · go_wp2
        go_ret
        exact ⟨ret_bool (decide_eq_true (hsame.all (by omega) (by omega))).symm, hmod⟩
  · have hn0 : ((l.length : Int) != (m.length : Int)) = true := by simp; omega
    have hne : l ≠ m := fun h => hlen (by rw [h])
    clear hlen
    go_enter Tryz.func139, Tryz.ntmps139
    go_wp2
    go_ret
    exact ⟨ret_bool (decide_eq_false hne).symm, Mod.refl _ _⟩

/-- A marked element's cells, its first mark q. -/
def Rule.marked (q : Int) : List Value := [.int .i64 (q), .int .i64 (q + 1), .int .i64 (q + 1 + 1)]
def Rule.marks (q : Int) : Nat → List Value
  | 0 => []
  | k + 1 => Rule.marks q k ++ Rule.marked (q + k * 3)
theorem Rule.marks_length (q : Int) (k : Nat) : (Rule.marks q k).length = k * 3 := by
  induction k with
  | zero => simp [Rule.marks]
  | succ k ih => simp [Rule.marks, Rule.marked, ih]; omega

set_option maxRecDepth 100000 in
set_option maxHeartbeats 1000000 in
theorem markRuleS_any (n c : Nat) (a : Option Addr) (g N : Nat) (w : World) (q0 : Int) (hq0 : 0 ≤ q0) (hq1 : q0 ≤ 1000000000000000) (hn : n ≤ 1048576) (h : n = 0 ∨ a = some ⟨g, 0, none⟩ ∧ n * 3 ≤ N ∧ Filled g 176 N w []) :
    Calls Tryz.prog 98 #[.slice a n c, .int .i64 q0] w fun e w' => e = .returned (.int .i64 (q0 + n * 3)) ∧ Mod (fun k => k = g) w w' ∧ (n = 0 ∨ Filled g 176 N w' (Rule.marks q0 n)) := by
  have H := hid h
  clear h
  go_enter Tryz.func98, Tryz.ntmps98
  go_wp2
  go_loopw [1, 5] (fun z i wr => ∃ (k : Nat) (q : Int), k ≤ n ∧ z = .int .i64 q ∧ Hid (q = q0 + k * 3) ∧ 0 ≤ q ∧ q ≤ 10000000000000000 ∧ i = .int .i64 k ∧ Mod (fun k => k = g) w wr ∧ (n = 0 ∨ Filled g 176 N wr (Rule.marks q0 k))) (fun _ i _ => n - (intOf i).toNat)
  case atStart =>
    refine ⟨0, q0, by omega, rfl, by show q0 = q0 + _; omega, by omega, by omega, rfl, Mod.refl _ _, ?_⟩
    rcases H.out with h | ⟨_, _, h⟩
    · exact .inl h
    · exact .inr h
  case round =>
    obtain ⟨k, q, hk, rfl, hq, q1, q2, rfl, hM, hF0⟩ := hrel
    by_cases hlt : k < n
    · rcases H.out with h | ⟨rfl, hN, _⟩
      · omega
      have hF := hF0.resolve_left (by omega)
      have hl0 := Rule.marks_length q0 k
      clear hF0
      obtain ⟨v0, d0⟩ := hF.cell (off := k * 3) (by omega)
      have z0 := hF.free (k * 3)
      obtain ⟨v1, d1⟩ := hF.cell (off := k * 3 + 1) (by omega)
      have z1 := hF.free (k * 3 + 1)
      obtain ⟨v2, d2⟩ := hF.cell (off := k * 3 + 2) (by omega)
      have z2 := hF.free (k * 3 + 2)
      have HF := hid hF
      have Hl0 := hid hl0
      clear hF hl0
      go_wp2
      go_roundw
      case rel =>
        have hF := HF.out
        have hl0 := Hl0.out
        have hq' := hq.out
        refine ⟨k + 1, q + 1 + 1 + 1, by omega, rfl, by show q + 1 + 1 + 1 = _; omega, by omega, by omega, by go_num, by (repeat (first | with_reducible exact Mod.refl _ _ | with_reducible refine Mod.drewN ?_ _ | with_reducible refine Mod.drew ?_ | with_reducible refine Mod.alloc ?_ _ | ((with_reducible refine Mod.setNew ?_ ?_ _ _ _); (rotate_left; omega)) | with_reducible refine Mod.setAt ?_ _ _ _ | with_reducible exact hM | with_reducible refine Mod.thenNone ?_ hM )), .inr ?_⟩
        have e : Rule.marks q0 (k + 1) = Rule.marks q0 k ++ [.int .i64 (q)] ++ [.int .i64 (q + 1)] ++ [.int .i64 (q + 1 + 1)] := by
          simp [Rule.marks, Rule.marked, ← hq']
        rw [e]
        exact (((hF.push (off := k * 3) (by simp [hl0]) (by omega) _).push (off := k * 3 + 1) (by simp [hl0]) (by omega) _).push (off := k * 3 + 2) (by simp [hl0]) (by omega) _)
      case measure => simp [intOf]; omega
    · have hk' : k = n := by omega
      subst hk'
      go_wp2
      go_ret
      exact ⟨ret_int hq.out, hM, hF0⟩

theorem Rule.marks_at (q0 : Int) (n k j : Nat) (v : Value) (hk : k < n) (hj : (Rule.marked (q0 + k * 3))[j]? = some v) : (Rule.marks q0 n)[k * 3 + j]? = some v := by
  have hjl : j < 3 := by
    have := (List.getElem?_eq_some_iff.1 hj).1
    simpa [Rule.marked] using this
  induction n with
  | zero => omega
  | succ n ih =>
    have hl := Rule.marks_length q0 n
    unfold Rule.marks
    by_cases e : k = n
    · subst e
      rw [List.getElem?_append_right (by omega), hl, Nat.add_sub_cancel_left]
      exact hj
    · rw [List.getElem?_append_left (by rw [hl]; omega)]
      exact ih (by omega)
end Go.Proofs.YtpkpkojmaebflaaGreatDoor
namespace Go.Proofs.YtpkpkojmaebflaaGreatDoor
open Go.RowKit

/-- A struct that holds one new slice. -/
def NewTable (e : TypeId) (w : World) (n : Nat) (xs : List Value) (en : Ending) (w' : World) : Prop :=
  ∃ g, en = .returned (.agg #[.slice (some ⟨g, 0, none⟩) n n]) ∧ w.heap.size ≤ g ∧ w'.heap[g]? = some (.cells xs.toArray e (0, 0)) ∧ Mod (fun _ => False) w w'

set_option maxHeartbeats 1000000 in
theorem toTable_any (l : List Rule) (a : Option Addr) (c : Nat) (R : Nat → Prop) (w : World) (hl : l.length ≤ 1048576) (h : SliceAt (Flat Rule.cells) 3 R w a l) :
    Calls Tryz.prog 108 #[.agg #[.slice a l.length c]] w (NewTable 176 w l.length (l.map Rule.cells).flatten) := by
  have H := hid h
  clear h
  go_enter Tryz.func108, Tryz.ntmps108
  go_wp2_with fail
  refine (toRuleS_any l _ _ _ _ hl (H.out.flatKeep (by (repeat (first | with_reducible exact Mod.refl _ _ | with_reducible refine Mod.drewN ?_ _ | with_reducible refine Mod.drew ?_ | with_reducible refine Mod.alloc ?_ _ | ((with_reducible refine Mod.setNew ?_ ?_ _ _ _); (rotate_left; omega)) | with_reducible refine Mod.setAt ?_ _ _ _ ))))).mono ?_
  rintro e w1 ⟨g, rfl, hg, hb, hm1⟩
  obtain ⟨hq1, hz1⟩ := mcell hm1
  have hs1 := hm1.size
  repeat (first | rw [World.size_alloc] at hs1 | rw [World.size_setCell] at hs1 | rw [World.size_drew] at hs1 | unfold World.drewN at hs1)
  have hr1_0 : w.heap.size < w1.heap.size := by omega
  have hr1_1 : w.heap.size + 1 < w1.heap.size := by omega
  have hr1_2 : w.heap.size + 1 + 1 < w1.heap.size := by omega
  simp only [World.size_alloc] at hg
  have hne : g ≠ w.heap.size + 1 + 1 := by omega
  have hne' : g ≠ w.heap.size + 1 := by omega
  have Hb := hid hb
  clear hb
  go_wp2
  refine bodyPost_ret (v := .agg #[.slice (some ⟨g, 0, none⟩) l.length l.length]) ?_ rfl ⟨g, rfl, by omega, ?_, ?_⟩
  · simp [results, Tryz.results108, go_sem, *]
  · simp only [blk_far hne, blk_far hne']
    exact Hb.out
  · (repeat (first | with_reducible exact Mod.refl _ _ | with_reducible refine Mod.drewN ?_ _ | with_reducible refine Mod.drew ?_ | with_reducible refine Mod.alloc ?_ _ | ((with_reducible refine Mod.setNew ?_ ?_ _ _ _); (rotate_left; omega)) | with_reducible refine Mod.setAt ?_ _ _ _ | with_reducible exact hm1 | with_reducible refine Mod.thenNone ?_ hm1 ))

set_option maxHeartbeats 1000000 in
theorem eqTable_any (l m : List Rule) (a a' : Option Addr) (c c' : Nat) (R S : Nat → Prop) (w : World) (hl : l.length ≤ 9223372036854775807) (hm : m.length ≤ 9223372036854775807) (h : SliceAt (Flat Rule.cells) 3 R w a l) (h' : SliceAt (Flat Rule.cells) 3 S w a' m) :
    Calls Tryz.prog 123 #[.agg #[.slice a l.length c], .agg #[.slice a' m.length c']] w fun e w' => e = .returned (.bool (decide (l = m))) ∧ Mod (fun _ => False) w w' := by
  have H := hid h
  have H' := hid h'
  clear h h'
  by_cases hx : l = m
  · have hd : decide (l = m) = true := decide_eq_true hx
    have Hx := hid hx
    clear hx
    go_enter Tryz.func123, Tryz.ntmps123
    go_wp2_with fail
    refine (eqRuleS_any l m _ _ _ _ _ _ _ hl hm (H.out.flatKeep (by (repeat (first | with_reducible exact Mod.refl _ _ | with_reducible refine Mod.drewN ?_ _ | with_reducible refine Mod.drew ?_ | with_reducible refine Mod.alloc ?_ _ | ((with_reducible refine Mod.setNew ?_ ?_ _ _ _); (rotate_left; omega)) | with_reducible refine Mod.setAt ?_ _ _ _ )))) (H'.out.flatKeep (by (repeat (first | with_reducible exact Mod.refl _ _ | with_reducible refine Mod.drewN ?_ _ | with_reducible refine Mod.drew ?_ | with_reducible refine Mod.alloc ?_ _ | ((with_reducible refine Mod.setNew ?_ ?_ _ _ _); (rotate_left; omega)) | with_reducible refine Mod.setAt ?_ _ _ _ ))))).mono ?_
    rintro e w1 ⟨rfl, hm1⟩
    go_wp2
    go_ret
    exact ⟨ret_bool hd.symm, by (repeat (first | with_reducible exact Mod.refl _ _ | with_reducible refine Mod.drewN ?_ _ | with_reducible refine Mod.drew ?_ | with_reducible refine Mod.alloc ?_ _ | ((with_reducible refine Mod.setNew ?_ ?_ _ _ _); (rotate_left; omega)) | with_reducible refine Mod.setAt ?_ _ _ _ | with_reducible exact hm1 | with_reducible refine Mod.thenNone ?_ hm1 ))⟩
  · have hd : decide (l = m) = false := decide_eq_false hx
    go_enter Tryz.func123, Tryz.ntmps123
    go_wp2_with fail
    refine (eqRuleS_any l m _ _ _ _ _ _ _ hl hm (H.out.flatKeep (by (repeat (first | with_reducible exact Mod.refl _ _ | with_reducible refine Mod.drewN ?_ _ | with_reducible refine Mod.drew ?_ | with_reducible refine Mod.alloc ?_ _ | ((with_reducible refine Mod.setNew ?_ ?_ _ _ _); (rotate_left; omega)) | with_reducible refine Mod.setAt ?_ _ _ _ )))) (H'.out.flatKeep (by (repeat (first | with_reducible exact Mod.refl _ _ | with_reducible refine Mod.drewN ?_ _ | with_reducible refine Mod.drew ?_ | with_reducible refine Mod.alloc ?_ _ | ((with_reducible refine Mod.setNew ?_ ?_ _ _ _); (rotate_left; omega)) | with_reducible refine Mod.setAt ?_ _ _ _ ))))).mono ?_
    rintro e w1 ⟨rfl, hm1⟩
    go_wp2
    go_ret
    exact ⟨ret_bool hd.symm, by (repeat (first | with_reducible exact Mod.refl _ _ | with_reducible refine Mod.drewN ?_ _ | with_reducible refine Mod.drew ?_ | with_reducible refine Mod.alloc ?_ _ | ((with_reducible refine Mod.setNew ?_ ?_ _ _ _); (rotate_left; omega)) | with_reducible refine Mod.setAt ?_ _ _ _ | with_reducible exact hm1 | with_reducible refine Mod.thenNone ?_ hm1 ))⟩

end Go.Proofs.YtpkpkojmaebflaaGreatDoor
namespace Go.Proofs.YtpkpkojmaebflaaGreatDoor
open Go.RowKit

/-- The cells cs read as a datum of type t. -/
def Rd (P : Program) (w : World) (t : TypeId) (cs : List Value) : Prop :=
  ∃ (H : Type) (enc : TypeId × Value → H) (fuel : Nat) (x : DataW H × List MemPlace), DataW.trod enc P w 0 (fun _ => true) true fuel t cs = some x

section
variable {P : Program} {w : World} {t e : TypeId} {cs : List Value}
theorem Rd.int {k : IntKind} (h : Rd P w t cs) (hu : P.underlying t = some (.int k)) : ∃ n, cs = [.int k n] ∧ (Lit.int k n).wf = true := by
  obtain ⟨H, enc, fuel, x, h⟩ := h
  obtain ⟨n, h1, _, h2⟩ := DataW.trod_int hu h
  exact ⟨n, h1, h2⟩
theorem Rd.bool (h : Rd P w t cs) (hu : P.underlying t = some .bool) : ∃ b, cs = [.bool b] := by
  obtain ⟨H, enc, fuel, x, h⟩ := h
  obtain ⟨n, h1, _⟩ := DataW.trod_bool hu h
  exact ⟨n, h1⟩
theorem Rd.string (h : Rd P w t cs) (hu : P.underlying t = some .string) : ∃ s : ByteArray, cs = [.string s] ∧ s.size ≤ maxLen := by
  obtain ⟨H, enc, fuel, x, h⟩ := h
  obtain ⟨n, h1, _, h2⟩ := DataW.trod_string hu h
  exact ⟨n, h1, h2⟩
theorem Rd.struct {fs : Array Field} (h : Rd P w t cs) (hu : P.underlying t = some (.struct fs)) :
    cs.length = P.cellsOf t ∧ ∀ (i : Nat) (f : Field), fs[i]? = some f → Rd P w f.type ((cs.drop f.offset).take (P.cellsOf f.type)) := by
  obtain ⟨H, enc, fuel, x, h⟩ := h
  obtain ⟨xs, n, _, _, hl, hxl, hf⟩ := DataW.trod_struct hu h
  refine ⟨hl, fun i f hi => ?_⟩
  have h1 := hf i f hi
  have hil : i < xs.length := by rw [hxl]; exact (Array.getElem?_eq_some_iff.1 hi).1
  rw [List.getElem?_eq_getElem hil] at h1
  exact ⟨H, enc, n, _, h1⟩
theorem Rd.slice (h : Rd P w t cs) (hu : P.underlying t = some (.slice e)) (hc : 0 < P.cellsOf e) :
    ∃ (a : Option Addr) (len cap : Nat), cs = [.slice a len cap] ∧ len ≤ cap ∧ cap ≤ maxLen ∧
      (len = 0 ∨ ∃ b o, a = some ⟨b, o, none⟩ ∧ b < w.heap.size ∧ ∀ i, i < len → ∃ cs', (cs'.length = P.cellsOf e ∧ ∀ (j : Nat) (v : Value), cs'[j]? = some v → w.cell? ⟨b, o + i * P.cellsOf e + j, none⟩ = some v) ∧ Rd P w e cs') := by
  obtain ⟨H, enc, fuel, x, h⟩ := h
  rcases DataW.trod_slice hu h with ⟨h1, _⟩ | ⟨a, len, cap, elems, rest, n, _, h1, _, _, hl, hm, hlen, hel, _⟩
  · exact ⟨_, _, _, h1, Nat.le_refl _, Nat.zero_le _, .inl rfl⟩
  · refine ⟨some a, len, cap, h1, hl, hm, ?_⟩
    by_cases h0 : len = 0
    · exact .inl h0
    · have rows : ∀ i, i < len → ∃ cs', (cs'.length = P.cellsOf e ∧ ∀ (j : Nat), j < P.cellsOf e → w.cell? ((a.add (i * P.cellsOf e)).add j) = cs'[j]?) ∧ Rd P w e cs' := by
        intro i hi
        have h2 := hel i hi
        rw [List.getElem?_eq_getElem (by omega)] at h2
        obtain ⟨cs', h3, h4⟩ := Option.bind_eq_some_iff.1 h2
        obtain ⟨_, h5, h6⟩ := World.cells?_some h3
        exact ⟨cs', ⟨h5, h6⟩, H, enc, n, _, h4⟩
      obtain ⟨b, o, s⟩ := a
      have hs : s = none := by
        obtain ⟨cs', ⟨h5, h6⟩, _⟩ := rows 0 (by omega)
        have h7 := h6 0 hc
        rw [List.getElem?_eq_getElem (by omega)] at h7
        simpa [Addr.add] using World.cell?_spot h7
      subst hs
      have ea : ∀ p q r : Nat, ((⟨p, q, none⟩ : Addr).add r) = ⟨p, q + r, none⟩ := by intro p q r; unfold Addr.add; split <;> simp_all
      have hb : b < w.heap.size := by
        obtain ⟨cs', ⟨h5, h6⟩, _⟩ := rows 0 (by omega)
        have h7 := h6 0 hc
        rw [List.getElem?_eq_getElem (by omega), ea, ea] at h7
        exact World.block_lt_of_cell? w ⟨b, _, none⟩ h7
      refine .inr ⟨b, o, rfl, hb, fun i hi => ?_⟩
      obtain ⟨cs', ⟨h5, h6⟩, h7⟩ := rows i hi
      refine ⟨cs', ⟨h5, fun j v hj => ?_⟩, h7⟩
      have h8 := h6 j (by have := (List.getElem?_eq_some_iff.1 hj).1; omega)
      rw [ea, ea] at h8
      rw [h8, hj]
end

theorem rd_list {α : Type} {rep : List Value → α → Prop} {Q : Nat → List Value → Prop} (n : Nat) (h : ∀ i, i < n → ∃ cs, Q i cs ∧ ∃ x, rep cs x) :
    ∃ (rows : List (List Value)) (l : List α), rows.length = n ∧ l.length = n ∧ (∀ (i : Nat) (r : List Value), rows[i]? = some r → Q i r) ∧ ∀ (i : Nat) (r : List Value) (x : α), rows[i]? = some r → l[i]? = some x → rep r x := by
  induction n with
  | zero => exact ⟨[], [], rfl, rfl, fun i r h => by simp at h, fun i r x h => by simp at h⟩
  | succ n ih =>
    obtain ⟨rows, l, h1, h2, h3, h4⟩ := ih fun i hi => h i (by omega)
    obtain ⟨cs, hQ, x, hr⟩ := h n (by omega)
    refine ⟨rows ++ [cs], l ++ [x], by simp [h1], by simp [h2], fun i r hi => ?_, fun i r y hi hl => ?_⟩
    · by_cases e : i < rows.length
      · rw [List.getElem?_append_left e] at hi
        exact h3 i r hi
      · rw [List.getElem?_append_right (by omega)] at hi
        have : i = n := by
          have := (List.getElem?_eq_some_iff.1 hi).1
          simp at this
          omega
        subst this
        rw [h1, Nat.sub_self] at hi
        simp at hi
        subst hi
        exact hQ
    · by_cases e : i < rows.length
      · rw [List.getElem?_append_left e] at hi
        rw [List.getElem?_append_left (by omega)] at hl
        exact h4 i r y hi hl
      · rw [List.getElem?_append_right (by omega)] at hi
        rw [List.getElem?_append_right (by omega)] at hl
        have : i = n := by
          have := (List.getElem?_eq_some_iff.1 hi).1
          simp at this
          omega
        subst this
        rw [h1, Nat.sub_self] at hi
        rw [h2, Nat.sub_self] at hl
        simp at hi hl
        subst hi; subst hl
        exact hr

/-- A slice argument reads as a list. -/
theorem Rd.list {P : Program} {w : World} {t e : TypeId} {cs : List Value} {α : Type} {rep : World → List Value → α → Prop} {sz : Nat} (h : Rd P w t cs) (hu : P.underlying t = some (.slice e)) (hsz : P.cellsOf e = sz) (hp : 0 < sz)
    (hr : ∀ cs', Rd P w e cs' → ∃ x, rep w cs' x) :
    ∃ (a : Option Addr) (l : List α) (cap : Nat), cs = [.slice a l.length cap] ∧ l.length ≤ cap ∧ cap ≤ maxLen ∧ SliceAt rep sz (fun k => k < w.heap.size) w a l := by
  obtain ⟨a, len, cap, hcs, hl, hm, hrest⟩ := h.slice hu (by omega)
  rw [hsz] at hrest
  rcases hrest with h0 | ⟨b, o, rfl, hb, hrows⟩
  · subst h0
    exact ⟨a, [], cap, hcs, hl, hm, SliceAt.nil⟩
  · obtain ⟨rows, l, h1, h2, h3, h4⟩ := rd_list (rep := rep w) (Q := fun i cs' => cs'.length = sz ∧ ∀ (j : Nat) (v : Value), cs'[j]? = some v → w.cell? ⟨b, o + i * sz + j, none⟩ = some v) len
      fun i hi => by
        obtain ⟨cs', hQ, hrd⟩ := hrows i hi
        exact ⟨cs', hQ, hr cs' hrd⟩
    subst h2
    exact ⟨_, l, cap, hcs, hl, hm, rows, .inr ⟨b, o, rfl, hb, hb, h3⟩, h1, h4⟩

theorem wf_i64 {n : Int} (h : (Lit.int .i64 n).wf = true) : -9223372036854775808 ≤ n ∧ n ≤ 9223372036854775807 := by
  simp [Lit.wf, IntKind.min, IntKind.max, IntKind.signed, IntKind.bits] at h
  omega

/-- A reading with a property of each element: the reading, and the property of all. -/
theorem SliceAt.split {α : Type} {cells : α → List Value} {p : α → Prop} {sz : Nat} {R : Nat → Prop} {w : World} {a : Option Addr} {l : List α} (h : SliceAt (fun _ r x => r = cells x ∧ p x) sz R w a l) :
    SliceAt (Flat cells) sz R w a l ∧ ∀ x ∈ l, p x := by
  obtain ⟨rows, h1, h2, h3⟩ := h
  refine ⟨⟨rows, h1, h2, fun i r x hr hx => (h3 i r x hr hx).1⟩, fun x hx => ?_⟩
  obtain ⟨i, hi, rfl⟩ := List.mem_iff_getElem.1 hx
  have hr : rows[i]? = some (rows[i]'(by omega)) := List.getElem?_eq_getElem (by omega)
  exact (h3 i _ _ hr (List.getElem?_eq_getElem hi)).2

end Go.Proofs.YtpkpkojmaebflaaGreatDoor
namespace Go.Proofs.YtpkpkojmaebflaaGreatDoor
open Go.RowKit

theorem szTable_any (n c : Nat) (a : Option Addr) (left : Int) (h0 : 0 ≤ left) (h1 : left ≤ 1048576) (hn : n ≤ 9223372036854775807) (w : World) : Calls Tryz.prog 100 #[.agg #[.slice a n c], .int .i64 left] w fun e w' => e = .returned (.int .i64 (if left < n then -1 else left - n)) ∧ Mod (fun _ => False) w w' := by
  by_cases h : left < n
  · rw [if_pos h]
    go_enter Tryz.func100, Tryz.ntmps100
    go_wp2_with fail
    refine (szRuleS_any _ _ _ _ h0 h1 hn _).mono ?_
    rintro e w' ⟨rfl, rfl⟩
    rw [if_pos h]
    go_wp2
    go_ret
    exact ⟨rfl, by (repeat (first | with_reducible exact Mod.refl _ _ | with_reducible refine Mod.drewN ?_ _ | with_reducible refine Mod.drew ?_ | with_reducible refine Mod.alloc ?_ _ | ((with_reducible refine Mod.setNew ?_ ?_ _ _ _); (rotate_left; omega)) | with_reducible refine Mod.setAt ?_ _ _ _ ))⟩
  · rw [if_neg h]
    have h2 : 0 ≤ left - n := by omega
    go_enter Tryz.func100, Tryz.ntmps100
    go_wp2_with fail
    refine (szRuleS_any _ _ _ _ h0 h1 hn _).mono ?_
    rintro e w' ⟨rfl, rfl⟩
    rw [if_neg (by omega)]
    go_wp2
    go_ret
    exact ⟨rfl, by (repeat (first | with_reducible exact Mod.refl _ _ | with_reducible refine Mod.drewN ?_ _ | with_reducible refine Mod.drew ?_ | with_reducible refine Mod.alloc ?_ _ | ((with_reducible refine Mod.setNew ?_ ?_ _ _ _); (rotate_left; omega)) | with_reducible refine Mod.setAt ?_ _ _ _ ))⟩

set_option maxRecDepth 100000 in
theorem rd_Rule {w : World} {cs : List Value} (h : Rd Tryz.prog w 210 cs) : ∃ x : Rule, cs = x.cells := by
  obtain ⟨hl, hf⟩ := h.struct Tryz.underlying210
  have hl2 : cs.length = 3 := hl.trans (by kernel_rfl)
  have c1 : Tryz.prog.cellsOf 3 = 1 := by kernel_rfl
  match cs, hl2 with
  | [q0, q1, q2], _ =>
    obtain ⟨n0, e0, _⟩ := (hf 0 _ rfl).int Tryz.underlying3
    obtain ⟨n1, e1, _⟩ := (hf 1 _ rfl).int Tryz.underlying3
    obtain ⟨n2, e2, _⟩ := (hf 2 _ rfl).int Tryz.underlying3
    simp [c1] at e0 e1 e2
    exact ⟨⟨n0, n1, n2⟩, by simp [Rule.cells, e0, e1, e2]⟩
set_option maxRecDepth 100000 in
theorem rd_Table {w : World} {cs : List Value} (h : Rd Tryz.prog w 127 cs) : ∃ (a : Option Addr) (l : List Rule) (c : Nat), cs = [.slice a l.length c] ∧ l.length ≤ 9223372036854775807 ∧ SliceAt (Flat Rule.cells) 3 (fun k => k < w.heap.size) w a l := by
  obtain ⟨hl, hf⟩ := h.struct Tryz.underlying127
  have hl2 : cs.length = 1 := hl.trans (by kernel_rfl)
  have c1 : Tryz.prog.cellsOf 125 = 1 := by kernel_rfl
  match cs, hl2 with
  | [q0], _ =>
    obtain ⟨a, l, c, e, h1, h2, h3⟩ := (hf 0 _ rfl).list (rep := Flat Rule.cells) (sz := 3) Tryz.underlying125 (by kernel_rfl) (by decide) (fun cs h => rd_Rule h)
    simp [c1] at e
    unfold maxLen at h2
    exact ⟨a, l, c, by rw [e], by omega, h3⟩

/-- A table's value reads as its rules. -/
def TableAt (l : List Rule) (w : World) (v : Value) : Prop := ∃ a c, v = .agg #[.slice a l.length c] ∧ ∃ R, SliceAt (Flat Rule.cells) 3 R w a l
theorem TableAt.keep {l : List Rule} {w w' : World} {v : Value} (h : TableAt l w v) (hm : Mod (fun _ => False) w w') : TableAt l w' v := by
  obtain ⟨a, c, h1, R, h2⟩ := h
  exact ⟨a, c, h1, R, h2.flatKeep hm⟩
theorem NewTable.at {w w' : World} {l : List Rule} {en : Ending} (h : NewTable 176 w l.length (l.map Rule.cells).flatten en w') :
    ∃ v, en = .returned v ∧ TableAt l w' v ∧ Mod (fun _ => False) w w' := by
  obtain ⟨g, he, hg, hb, hm⟩ := h
  exact ⟨_, he, ⟨_, _, rfl, _, flat_of_blk hb (fun _ => rfl)⟩, hm⟩

end Go.Proofs.YtpkpkojmaebflaaGreatDoor
namespace Go.Proofs.YtpkpkojmaebflaaGreatDoor
open Go.RowKit

def icell (x : Int) : List Value := [.int .i64 x]
abbrev IntSlice (R : Nat → Prop) (w : World) (a : Option Addr) (l : List Int) : Prop := SliceAt (Flat icell) 1 R w a l

theorem IntSlice.get {R : Nat → Prop} {w : World} {a : Option Addr} {l : List Int} (h : IntSlice R w a l) {k : Nat} (hk : k < l.length) :
    ∃ b o x, a = some ⟨b, o, none⟩ ∧ R b ∧ b < w.heap.size ∧ Hid (l[k]? = some x) ∧ w.cell? ⟨b, o + k, none⟩ = some (.int .i64 x) := by
  obtain ⟨b, o, x, r, rfl, hR, hb, hx, hr, _, hc⟩ := SliceAt.get h hk
  obtain rfl : r = icell x := hr
  have := hc 0 _ rfl
  rw [Nat.mul_one, Nat.add_zero] at this
  exact ⟨b, o, x, rfl, hR, hb, hx, this⟩
theorem IntSlice.at {R : Nat → Prop} {w : World} {a : Option Addr} {l : List Int} (h : IntSlice R w a l) : IntsAt w a l := by
  by_cases hl : l = []
  · exact .inl hl
  · obtain ⟨b, o, x, rfl, _⟩ := h.get (List.length_pos_iff.2 hl)
    refine .inr ⟨b, o, rfl, fun i hi => ?_⟩
    obtain ⟨b', o', y, e, _, _, hy, hc⟩ := h.get hi
    simp only [Option.some.injEq, Addr.mk.injEq, and_true] at e
    obtain ⟨rfl, rfl⟩ := e
    rw [hc]
    have := hy.out
    simp [List.getD, this]
theorem icells_length (l : List Int) : (l.map icell).flatten.length = l.length * 1 := flat_length (cells := icell) (sz := 1) (fun _ => rfl) l
theorem fm_succ {α β : Type} {l : List α} {k : Nat} {x : α} (g : α → Option β) (h : Hid (l[k]? = some x)) : (l.take (k + 1)).filterMap g = (l.take k).filterMap g ++ (g x).toList := by
  rw [List.take_add_one, h.out, List.filterMap_append]
  cases hg : g x <;> simp [hg]
theorem fm_some {α β : Type} {l : List α} {k : Nat} {x : α} {v : β} (g : α → Option β) (h : Hid (l[k]? = some x)) (hg : g x = some v) : (l.take (k + 1)).filterMap g = (l.take k).filterMap g ++ [v] := by
  rw [fm_succ g h, hg]
  rfl
theorem fm_len {α β : Type} (l : List α) (k : Nat) (g : α → Option β) : ((l.take k).filterMap g).length ≤ k := by
  have h1 := List.length_filterMap_le g (l.take k)
  rw [List.length_take] at h1
  omega
theorem map_fm {α β : Type} (l : List α) (f : α → β) : l.map f = l.filterMap fun x => some (f x) := by
  rw [← List.filterMap_eq_map]
  rfl

end Go.Proofs.YtpkpkojmaebflaaGreatDoor
