/-
  PROVED: contracts of functions and words on memory, several texts put together: what each says stands at its theorems. Conditions: as told there.
-/
import Derived.Test.YtkkjjhooamlljaaMBa
import Derived.Test.YtkkjjhooamlljaaProg
import Derived.Test.YtkkjjhooamlljaaChecked
import Derived.Deep.QuietTactic
import Derived.BigQuiet
import Derived.Outline
import Derived.WalkLawsBesides
import Derived.Laws.OwnMore
import Derived.Deep.Onto
import Derived.Deep.RegionHeld3
import Derived.StillTailTactics
import Derived.ProofKit
set_option linter.unusedVariables false
set_option linter.unusedSimpArgs false
namespace Go.Proofs.Ytkkjjhooamlljaa

instance : TOne Try.prog 2 := ⟨⟨_, Try.underlying2, rfl⟩, by kernel_rfl⟩
instance : TEl Try.prog 2 1 8 (.int .i64 0) := ⟨by kernel_rfl, rfl, by decide⟩
instance : TZero Try.prog 2 [.int .i64 0] := ⟨.int .i64 0, by kernel_rfl, rfl⟩
instance : TOne Try.prog 3 := ⟨⟨_, Try.underlying3, rfl⟩, by kernel_rfl⟩
instance : TEl Try.prog 3 1 8 (.int .i64 0) := ⟨by kernel_rfl, rfl, by decide⟩
instance : TZero Try.prog 3 [.int .i64 0] := ⟨.int .i64 0, by kernel_rfl, rfl⟩
instance : TOne Try.prog 4 := ⟨⟨_, Try.underlying4, rfl⟩, by kernel_rfl⟩
instance : TBool Try.prog 4 := ⟨Try.underlying4⟩
instance : TEl Try.prog 4 1 1 (.bool false) := ⟨by kernel_rfl, rfl, by decide⟩
instance : TZero Try.prog 4 [.bool false] := ⟨.bool false, by kernel_rfl, rfl⟩
instance : TOne Try.prog 5 := ⟨⟨_, Try.underlying5, rfl⟩, by kernel_rfl⟩
instance : TEl Try.prog 5 1 1 (.int .u8 0) := ⟨by kernel_rfl, rfl, by decide⟩
instance : TZero Try.prog 5 [.int .u8 0] := ⟨.int .u8 0, by kernel_rfl, rfl⟩
instance : TOne Try.prog 6 := ⟨⟨_, Try.underlying6, rfl⟩, by kernel_rfl⟩
instance : TEl Try.prog 6 1 1 (.int .u8 0) := ⟨by kernel_rfl, rfl, by decide⟩
instance : TZero Try.prog 6 [.int .u8 0] := ⟨.int .u8 0, by kernel_rfl, rfl⟩
instance : TRow Try.prog 7 4 := ⟨⟨_, Try.underlying7, rfl⟩, by kernel_rfl⟩
instance : TFld Try.prog 7 0 0 := ⟨_, _, 0, Try.underlying7, rfl, rfl, by kernel_rfl⟩
instance : TFld Try.prog 7 1 1 := ⟨_, _, 0, Try.underlying7, rfl, rfl, by kernel_rfl⟩
instance : TFld Try.prog 7 2 2 := ⟨_, _, 0, Try.underlying7, rfl, rfl, by kernel_rfl⟩
instance : TFld Try.prog 7 3 3 := ⟨_, _, 0, Try.underlying7, rfl, rfl, by kernel_rfl⟩
instance : TEl Try.prog 7 4 24 (.agg #[.int .i64 0, .int .i64 0, .bool false, .int .u8 0]) := ⟨by kernel_rfl, rfl, by decide⟩
instance : TZero Try.prog 7 [.int .i64 0, .int .i64 0, .bool false, .int .u8 0] := ⟨.agg #[.int .i64 0, .int .i64 0, .bool false, .int .u8 0], by kernel_rfl, rfl⟩
instance : TRow Try.prog 8 4 := ⟨⟨_, Try.underlying8, rfl⟩, by kernel_rfl⟩
instance : TFld Try.prog 8 0 0 := ⟨_, _, 0, Try.underlying8, rfl, rfl, by kernel_rfl⟩
instance : TFld Try.prog 8 1 1 := ⟨_, _, 0, Try.underlying8, rfl, rfl, by kernel_rfl⟩
instance : TFld Try.prog 8 2 2 := ⟨_, _, 0, Try.underlying8, rfl, rfl, by kernel_rfl⟩
instance : TFld Try.prog 8 3 3 := ⟨_, _, 0, Try.underlying8, rfl, rfl, by kernel_rfl⟩
instance : TEl Try.prog 8 4 24 (.agg #[.int .i64 0, .int .i64 0, .bool false, .int .u8 0]) := ⟨by kernel_rfl, rfl, by decide⟩
instance : TZero Try.prog 8 [.int .i64 0, .int .i64 0, .bool false, .int .u8 0] := ⟨.agg #[.int .i64 0, .int .i64 0, .bool false, .int .u8 0], by kernel_rfl, rfl⟩
instance : TOne Try.prog 9 := ⟨⟨_, Try.underlying9, rfl⟩, by kernel_rfl⟩
instance : TStr Try.prog 9 := ⟨Try.underlying9⟩
instance : TEl Try.prog 9 1 16 (.string ⟨#[]⟩) := ⟨by kernel_rfl, rfl, by decide⟩
instance : TZero Try.prog 9 [.string ⟨#[]⟩] := ⟨.string ⟨#[]⟩, by kernel_rfl, rfl⟩
instance : TOne Try.prog 10 := ⟨⟨_, Try.underlying10, rfl⟩, by kernel_rfl⟩
instance : TStr Try.prog 10 := ⟨Try.underlying10⟩
instance : TEl Try.prog 10 1 16 (.string ⟨#[]⟩) := ⟨by kernel_rfl, rfl, by decide⟩
instance : TZero Try.prog 10 [.string ⟨#[]⟩] := ⟨.string ⟨#[]⟩, by kernel_rfl, rfl⟩
instance : TOne Try.prog 11 := ⟨⟨_, Try.underlying11, rfl⟩, by kernel_rfl⟩
instance : TStr Try.prog 11 := ⟨Try.underlying11⟩
instance : TEl Try.prog 11 1 16 (.string ⟨#[]⟩) := ⟨by kernel_rfl, rfl, by decide⟩
instance : TZero Try.prog 11 [.string ⟨#[]⟩] := ⟨.string ⟨#[]⟩, by kernel_rfl, rfl⟩
instance : TOne Try.prog 12 := ⟨⟨_, Try.underlying12, rfl⟩, by kernel_rfl⟩
instance : TEl Try.prog 12 1 8 (.int .u64 0) := ⟨by kernel_rfl, rfl, by decide⟩
instance : TZero Try.prog 12 [.int .u64 0] := ⟨.int .u64 0, by kernel_rfl, rfl⟩
instance : TRow Try.prog 13 2 := ⟨⟨_, Try.underlying13, rfl⟩, by kernel_rfl⟩
instance : TFld Try.prog 13 0 0 := ⟨_, _, 0, Try.underlying13, rfl, rfl, by kernel_rfl⟩
instance : TFld Try.prog 13 1 1 := ⟨_, _, 0, Try.underlying13, rfl, rfl, by kernel_rfl⟩
instance : TEl Try.prog 13 2 24 (.agg #[.string ⟨#[]⟩, .int .u64 0]) := ⟨by kernel_rfl, rfl, by decide⟩
instance : TZero Try.prog 13 [.string ⟨#[]⟩, .int .u64 0] := ⟨.agg #[.string ⟨#[]⟩, .int .u64 0], by kernel_rfl, rfl⟩
instance : TRow Try.prog 14 2 := ⟨⟨_, Try.underlying14, rfl⟩, by kernel_rfl⟩
instance : TFld Try.prog 14 0 0 := ⟨_, _, 0, Try.underlying14, rfl, rfl, by kernel_rfl⟩
instance : TFld Try.prog 14 1 1 := ⟨_, _, 0, Try.underlying14, rfl, rfl, by kernel_rfl⟩
instance : TEl Try.prog 14 2 24 (.agg #[.string ⟨#[]⟩, .int .u64 0]) := ⟨by kernel_rfl, rfl, by decide⟩
instance : TZero Try.prog 14 [.string ⟨#[]⟩, .int .u64 0] := ⟨.agg #[.string ⟨#[]⟩, .int .u64 0], by kernel_rfl, rfl⟩
instance : TOne Try.prog 15 := ⟨⟨_, Try.underlying15, rfl⟩, by kernel_rfl⟩
instance : TPtr Try.prog 15 := ⟨⟨_, Try.underlying15⟩⟩
instance : TEl Try.prog 15 1 8 (.pointer none) := ⟨by kernel_rfl, rfl, by decide⟩
instance : TZero Try.prog 15 [.pointer none] := ⟨.pointer none, by kernel_rfl, rfl⟩
instance : TOne Try.prog 16 := ⟨⟨_, Try.underlying16, rfl⟩, by kernel_rfl⟩
instance : TPtr Try.prog 16 := ⟨⟨_, Try.underlying16⟩⟩
instance : TEl Try.prog 16 1 8 (.pointer none) := ⟨by kernel_rfl, rfl, by decide⟩
instance : TZero Try.prog 16 [.pointer none] := ⟨.pointer none, by kernel_rfl, rfl⟩
instance : TOne Try.prog 17 := ⟨⟨_, Try.underlying17, rfl⟩, by kernel_rfl⟩
instance : TPtr Try.prog 17 := ⟨⟨_, Try.underlying17⟩⟩
instance : TEl Try.prog 17 1 8 (.pointer none) := ⟨by kernel_rfl, rfl, by decide⟩
instance : TZero Try.prog 17 [.pointer none] := ⟨.pointer none, by kernel_rfl, rfl⟩
instance : TRow Try.prog 18 1 := ⟨⟨_, Try.underlying18, rfl⟩, by kernel_rfl⟩
instance : TFld Try.prog 18 0 0 := ⟨_, _, 0, Try.underlying18, rfl, rfl, by kernel_rfl⟩
instance : TEl Try.prog 18 1 8 (.agg #[.pointer none]) := ⟨by kernel_rfl, rfl, by decide⟩
instance : TZero Try.prog 18 [.pointer none] := ⟨.agg #[.pointer none], by kernel_rfl, rfl⟩
instance : TRow Try.prog 19 1 := ⟨⟨_, Try.underlying19, rfl⟩, by kernel_rfl⟩
instance : TFld Try.prog 19 0 0 := ⟨_, _, 0, Try.underlying19, rfl, rfl, by kernel_rfl⟩
instance : TEl Try.prog 19 1 8 (.agg #[.pointer none]) := ⟨by kernel_rfl, rfl, by decide⟩
instance : TZero Try.prog 19 [.pointer none] := ⟨.agg #[.pointer none], by kernel_rfl, rfl⟩
instance : TOne Try.prog 21 := ⟨⟨_, Try.underlying21, rfl⟩, by kernel_rfl⟩
instance : TEl Try.prog 21 1 4 (.int .i32 0) := ⟨by kernel_rfl, rfl, by decide⟩
instance : TZero Try.prog 21 [.int .i32 0] := ⟨.int .i32 0, by kernel_rfl, rfl⟩
instance : TOne Try.prog 22 := ⟨⟨_, Try.underlying22, rfl⟩, by kernel_rfl⟩
instance : TSl Try.prog 22 94 64 := ⟨Try.underlying22, by kernel_rfl⟩
instance : TEl Try.prog 22 1 24 (.slice none 0 0) := ⟨by kernel_rfl, rfl, by decide⟩
instance : TZero Try.prog 22 [.slice none 0 0] := ⟨.slice none 0 0, by kernel_rfl, rfl⟩
instance : TRow Try.prog 23 1 := ⟨⟨_, Try.underlying23, rfl⟩, by kernel_rfl⟩
instance : TFld Try.prog 23 0 0 := ⟨_, _, 0, Try.underlying23, rfl, rfl, by kernel_rfl⟩
instance : TEl Try.prog 23 1 24 (.agg #[.slice none 0 0]) := ⟨by kernel_rfl, rfl, by decide⟩
instance : TZero Try.prog 23 [.slice none 0 0] := ⟨.agg #[.slice none 0 0], by kernel_rfl, rfl⟩
instance : TRow Try.prog 24 1 := ⟨⟨_, Try.underlying24, rfl⟩, by kernel_rfl⟩
instance : TFld Try.prog 24 0 0 := ⟨_, _, 0, Try.underlying24, rfl, rfl, by kernel_rfl⟩
instance : TEl Try.prog 24 1 24 (.agg #[.slice none 0 0]) := ⟨by kernel_rfl, rfl, by decide⟩
instance : TZero Try.prog 24 [.slice none 0 0] := ⟨.agg #[.slice none 0 0], by kernel_rfl, rfl⟩
instance : TOne Try.prog 25 := ⟨⟨_, Try.underlying25, rfl⟩, by kernel_rfl⟩
instance : TSl Try.prog 25 101 10 := ⟨Try.underlying25, by kernel_rfl⟩
instance : TEl Try.prog 25 1 24 (.slice none 0 0) := ⟨by kernel_rfl, rfl, by decide⟩
instance : TZero Try.prog 25 [.slice none 0 0] := ⟨.slice none 0 0, by kernel_rfl, rfl⟩
instance : TOne Try.prog 26 := ⟨⟨_, Try.underlying26, rfl⟩, by kernel_rfl⟩
instance : TSl Try.prog 26 125 6 := ⟨Try.underlying26, by kernel_rfl⟩
instance : TEl Try.prog 26 1 24 (.slice none 0 0) := ⟨by kernel_rfl, rfl, by decide⟩
instance : TZero Try.prog 26 [.slice none 0 0] := ⟨.slice none 0 0, by kernel_rfl, rfl⟩
instance : TRow Try.prog 27 2 := ⟨⟨_, Try.underlying27, rfl⟩, by kernel_rfl⟩
instance : TFld Try.prog 27 0 0 := ⟨_, _, 0, Try.underlying27, rfl, rfl, by kernel_rfl⟩
instance : TFld Try.prog 27 1 1 := ⟨_, _, 0, Try.underlying27, rfl, rfl, by kernel_rfl⟩
instance : TEl Try.prog 27 2 48 (.agg #[.slice none 0 0, .slice none 0 0]) := ⟨by kernel_rfl, rfl, by decide⟩
instance : TZero Try.prog 27 [.slice none 0 0, .slice none 0 0] := ⟨.agg #[.slice none 0 0, .slice none 0 0], by kernel_rfl, rfl⟩
instance : TRow Try.prog 28 2 := ⟨⟨_, Try.underlying28, rfl⟩, by kernel_rfl⟩
instance : TFld Try.prog 28 0 0 := ⟨_, _, 0, Try.underlying28, rfl, rfl, by kernel_rfl⟩
instance : TFld Try.prog 28 1 1 := ⟨_, _, 0, Try.underlying28, rfl, rfl, by kernel_rfl⟩
instance : TEl Try.prog 28 2 48 (.agg #[.slice none 0 0, .slice none 0 0]) := ⟨by kernel_rfl, rfl, by decide⟩
instance : TZero Try.prog 28 [.slice none 0 0, .slice none 0 0] := ⟨.agg #[.slice none 0 0, .slice none 0 0], by kernel_rfl, rfl⟩
instance : TOne Try.prog 29 := ⟨⟨_, Try.underlying29, rfl⟩, by kernel_rfl⟩
instance : TSl Try.prog 29 71 5 := ⟨Try.underlying29, by kernel_rfl⟩
instance : TEl Try.prog 29 1 24 (.slice none 0 0) := ⟨by kernel_rfl, rfl, by decide⟩
instance : TZero Try.prog 29 [.slice none 0 0] := ⟨.slice none 0 0, by kernel_rfl, rfl⟩
instance : TRow Try.prog 30 8 := ⟨⟨_, Try.underlying30, rfl⟩, by kernel_rfl⟩
instance : TFld Try.prog 30 0 0 := ⟨_, _, 0, Try.underlying30, rfl, rfl, by kernel_rfl⟩
instance : TFld Try.prog 30 1 1 := ⟨_, _, 1, Try.underlying30, rfl, rfl, by kernel_rfl⟩
instance : TFld Try.prog 30 2 3 := ⟨_, _, 0, Try.underlying30, rfl, rfl, by kernel_rfl⟩
instance : TFld Try.prog 30 3 4 := ⟨_, _, 0, Try.underlying30, rfl, rfl, by kernel_rfl⟩
instance : TFld Try.prog 30 4 5 := ⟨_, _, 0, Try.underlying30, rfl, rfl, by kernel_rfl⟩
instance : TFld Try.prog 30 5 6 := ⟨_, _, 0, Try.underlying30, rfl, rfl, by kernel_rfl⟩
instance : TFld Try.prog 30 6 7 := ⟨_, _, 0, Try.underlying30, rfl, rfl, by kernel_rfl⟩
instance : TEl Try.prog 30 8 128 (.agg #[.slice none 0 0, .slice none 0 0, .slice none 0 0, .slice none 0 0, .int .i64 0, .int .i64 0, .int .i64 0, .bool false]) := ⟨by kernel_rfl, rfl, by decide⟩
instance : TZero Try.prog 30 [.slice none 0 0, .slice none 0 0, .slice none 0 0, .slice none 0 0, .int .i64 0, .int .i64 0, .int .i64 0, .bool false] := ⟨.agg #[.slice none 0 0, .slice none 0 0, .slice none 0 0, .slice none 0 0, .int .i64 0, .int .i64 0, .int .i64 0, .bool false], by kernel_rfl, rfl⟩
instance : TRow Try.prog 31 8 := ⟨⟨_, Try.underlying31, rfl⟩, by kernel_rfl⟩
instance : TFld Try.prog 31 0 0 := ⟨_, _, 0, Try.underlying31, rfl, rfl, by kernel_rfl⟩
instance : TFld Try.prog 31 1 1 := ⟨_, _, 1, Try.underlying31, rfl, rfl, by kernel_rfl⟩
instance : TFld Try.prog 31 2 3 := ⟨_, _, 0, Try.underlying31, rfl, rfl, by kernel_rfl⟩
instance : TFld Try.prog 31 3 4 := ⟨_, _, 0, Try.underlying31, rfl, rfl, by kernel_rfl⟩
instance : TFld Try.prog 31 4 5 := ⟨_, _, 0, Try.underlying31, rfl, rfl, by kernel_rfl⟩
instance : TFld Try.prog 31 5 6 := ⟨_, _, 0, Try.underlying31, rfl, rfl, by kernel_rfl⟩
instance : TFld Try.prog 31 6 7 := ⟨_, _, 0, Try.underlying31, rfl, rfl, by kernel_rfl⟩
instance : TEl Try.prog 31 8 128 (.agg #[.slice none 0 0, .slice none 0 0, .slice none 0 0, .slice none 0 0, .int .i64 0, .int .i64 0, .int .i64 0, .bool false]) := ⟨by kernel_rfl, rfl, by decide⟩
instance : TZero Try.prog 31 [.slice none 0 0, .slice none 0 0, .slice none 0 0, .slice none 0 0, .int .i64 0, .int .i64 0, .int .i64 0, .bool false] := ⟨.agg #[.slice none 0 0, .slice none 0 0, .slice none 0 0, .slice none 0 0, .int .i64 0, .int .i64 0, .int .i64 0, .bool false], by kernel_rfl, rfl⟩
instance : TOne Try.prog 33 := ⟨⟨_, Try.underlying33, rfl⟩, by kernel_rfl⟩
instance : TSl Try.prog 33 112 64 := ⟨Try.underlying33, by kernel_rfl⟩
instance : TEl Try.prog 33 1 24 (.slice none 0 0) := ⟨by kernel_rfl, rfl, by decide⟩
instance : TZero Try.prog 33 [.slice none 0 0] := ⟨.slice none 0 0, by kernel_rfl, rfl⟩
instance : TRow Try.prog 34 1 := ⟨⟨_, Try.underlying34, rfl⟩, by kernel_rfl⟩
instance : TFld Try.prog 34 0 0 := ⟨_, _, 0, Try.underlying34, rfl, rfl, by kernel_rfl⟩
instance : TEl Try.prog 34 1 24 (.agg #[.slice none 0 0]) := ⟨by kernel_rfl, rfl, by decide⟩
instance : TZero Try.prog 34 [.slice none 0 0] := ⟨.agg #[.slice none 0 0], by kernel_rfl, rfl⟩
instance : TRow Try.prog 35 1 := ⟨⟨_, Try.underlying35, rfl⟩, by kernel_rfl⟩
instance : TFld Try.prog 35 0 0 := ⟨_, _, 0, Try.underlying35, rfl, rfl, by kernel_rfl⟩
instance : TEl Try.prog 35 1 24 (.agg #[.slice none 0 0]) := ⟨by kernel_rfl, rfl, by decide⟩
instance : TZero Try.prog 35 [.slice none 0 0] := ⟨.agg #[.slice none 0 0], by kernel_rfl, rfl⟩
instance : TOne Try.prog 36 := ⟨⟨_, Try.underlying36, rfl⟩, by kernel_rfl⟩
instance : TSl Try.prog 36 117 10 := ⟨Try.underlying36, by kernel_rfl⟩
instance : TEl Try.prog 36 1 24 (.slice none 0 0) := ⟨by kernel_rfl, rfl, by decide⟩
instance : TZero Try.prog 36 [.slice none 0 0] := ⟨.slice none 0 0, by kernel_rfl, rfl⟩
instance : TOne Try.prog 37 := ⟨⟨_, Try.underlying37, rfl⟩, by kernel_rfl⟩
instance : TSl Try.prog 37 122 6 := ⟨Try.underlying37, by kernel_rfl⟩
instance : TEl Try.prog 37 1 24 (.slice none 0 0) := ⟨by kernel_rfl, rfl, by decide⟩
instance : TZero Try.prog 37 [.slice none 0 0] := ⟨.slice none 0 0, by kernel_rfl, rfl⟩
instance : TRow Try.prog 38 2 := ⟨⟨_, Try.underlying38, rfl⟩, by kernel_rfl⟩
instance : TFld Try.prog 38 0 0 := ⟨_, _, 0, Try.underlying38, rfl, rfl, by kernel_rfl⟩
instance : TFld Try.prog 38 1 1 := ⟨_, _, 0, Try.underlying38, rfl, rfl, by kernel_rfl⟩
instance : TEl Try.prog 38 2 48 (.agg #[.slice none 0 0, .slice none 0 0]) := ⟨by kernel_rfl, rfl, by decide⟩
instance : TZero Try.prog 38 [.slice none 0 0, .slice none 0 0] := ⟨.agg #[.slice none 0 0, .slice none 0 0], by kernel_rfl, rfl⟩
instance : TRow Try.prog 39 2 := ⟨⟨_, Try.underlying39, rfl⟩, by kernel_rfl⟩
instance : TFld Try.prog 39 0 0 := ⟨_, _, 0, Try.underlying39, rfl, rfl, by kernel_rfl⟩
instance : TFld Try.prog 39 1 1 := ⟨_, _, 0, Try.underlying39, rfl, rfl, by kernel_rfl⟩
instance : TEl Try.prog 39 2 48 (.agg #[.slice none 0 0, .slice none 0 0]) := ⟨by kernel_rfl, rfl, by decide⟩
instance : TZero Try.prog 39 [.slice none 0 0, .slice none 0 0] := ⟨.agg #[.slice none 0 0, .slice none 0 0], by kernel_rfl, rfl⟩
instance : TOne Try.prog 40 := ⟨⟨_, Try.underlying40, rfl⟩, by kernel_rfl⟩
instance : TSl Try.prog 40 69 5 := ⟨Try.underlying40, by kernel_rfl⟩
instance : TEl Try.prog 40 1 24 (.slice none 0 0) := ⟨by kernel_rfl, rfl, by decide⟩
instance : TZero Try.prog 40 [.slice none 0 0] := ⟨.slice none 0 0, by kernel_rfl, rfl⟩
instance : TRow Try.prog 41 8 := ⟨⟨_, Try.underlying41, rfl⟩, by kernel_rfl⟩
instance : TFld Try.prog 41 0 0 := ⟨_, _, 0, Try.underlying41, rfl, rfl, by kernel_rfl⟩
instance : TFld Try.prog 41 1 1 := ⟨_, _, 1, Try.underlying41, rfl, rfl, by kernel_rfl⟩
instance : TFld Try.prog 41 2 3 := ⟨_, _, 0, Try.underlying41, rfl, rfl, by kernel_rfl⟩
instance : TFld Try.prog 41 3 4 := ⟨_, _, 0, Try.underlying41, rfl, rfl, by kernel_rfl⟩
instance : TFld Try.prog 41 4 5 := ⟨_, _, 0, Try.underlying41, rfl, rfl, by kernel_rfl⟩
instance : TFld Try.prog 41 5 6 := ⟨_, _, 0, Try.underlying41, rfl, rfl, by kernel_rfl⟩
instance : TFld Try.prog 41 6 7 := ⟨_, _, 0, Try.underlying41, rfl, rfl, by kernel_rfl⟩
instance : TEl Try.prog 41 8 128 (.agg #[.slice none 0 0, .slice none 0 0, .slice none 0 0, .slice none 0 0, .int .i64 0, .int .i64 0, .int .i64 0, .bool false]) := ⟨by kernel_rfl, rfl, by decide⟩
instance : TZero Try.prog 41 [.slice none 0 0, .slice none 0 0, .slice none 0 0, .slice none 0 0, .int .i64 0, .int .i64 0, .int .i64 0, .bool false] := ⟨.agg #[.slice none 0 0, .slice none 0 0, .slice none 0 0, .slice none 0 0, .int .i64 0, .int .i64 0, .int .i64 0, .bool false], by kernel_rfl, rfl⟩
instance : TRow Try.prog 42 8 := ⟨⟨_, Try.underlying42, rfl⟩, by kernel_rfl⟩
instance : TFld Try.prog 42 0 0 := ⟨_, _, 0, Try.underlying42, rfl, rfl, by kernel_rfl⟩
instance : TFld Try.prog 42 1 1 := ⟨_, _, 1, Try.underlying42, rfl, rfl, by kernel_rfl⟩
instance : TFld Try.prog 42 2 3 := ⟨_, _, 0, Try.underlying42, rfl, rfl, by kernel_rfl⟩
instance : TFld Try.prog 42 3 4 := ⟨_, _, 0, Try.underlying42, rfl, rfl, by kernel_rfl⟩
instance : TFld Try.prog 42 4 5 := ⟨_, _, 0, Try.underlying42, rfl, rfl, by kernel_rfl⟩
instance : TFld Try.prog 42 5 6 := ⟨_, _, 0, Try.underlying42, rfl, rfl, by kernel_rfl⟩
instance : TFld Try.prog 42 6 7 := ⟨_, _, 0, Try.underlying42, rfl, rfl, by kernel_rfl⟩
instance : TEl Try.prog 42 8 128 (.agg #[.slice none 0 0, .slice none 0 0, .slice none 0 0, .slice none 0 0, .int .i64 0, .int .i64 0, .int .i64 0, .bool false]) := ⟨by kernel_rfl, rfl, by decide⟩
instance : TZero Try.prog 42 [.slice none 0 0, .slice none 0 0, .slice none 0 0, .slice none 0 0, .int .i64 0, .int .i64 0, .int .i64 0, .bool false] := ⟨.agg #[.slice none 0 0, .slice none 0 0, .slice none 0 0, .slice none 0 0, .int .i64 0, .int .i64 0, .int .i64 0, .bool false], by kernel_rfl, rfl⟩
instance : TRow Try.prog 68 5 := ⟨⟨_, Try.underlying68, rfl⟩, by kernel_rfl⟩
instance : TFld Try.prog 68 0 0 := ⟨_, _, 0, Try.underlying68, rfl, rfl, by kernel_rfl⟩
instance : TFld Try.prog 68 1 1 := ⟨_, _, 0, Try.underlying68, rfl, rfl, by kernel_rfl⟩
instance : TFld Try.prog 68 2 2 := ⟨_, _, 0, Try.underlying68, rfl, rfl, by kernel_rfl⟩
instance : TFld Try.prog 68 3 3 := ⟨_, _, 0, Try.underlying68, rfl, rfl, by kernel_rfl⟩
instance : TFld Try.prog 68 4 4 := ⟨_, _, 0, Try.underlying68, rfl, rfl, by kernel_rfl⟩
instance : TEq Try.prog 68 [0, 0, 0, 0, 0] := ⟨by kernel_rfl, by kernel_rfl, _, Try.underlying68⟩
instance : TEl Try.prog 68 5 40 (.agg #[.int .i64 0, .int .i64 0, .int .i64 0, .int .i64 0, .int .i64 0]) := ⟨by kernel_rfl, rfl, by decide⟩
instance : TZero Try.prog 68 [.int .i64 0, .int .i64 0, .int .i64 0, .int .i64 0, .int .i64 0] := ⟨.agg #[.int .i64 0, .int .i64 0, .int .i64 0, .int .i64 0, .int .i64 0], by kernel_rfl, rfl⟩
instance : TRow Try.prog 69 5 := ⟨⟨_, Try.underlying69, rfl⟩, by kernel_rfl⟩
instance : TFld Try.prog 69 0 0 := ⟨_, _, 0, Try.underlying69, rfl, rfl, by kernel_rfl⟩
instance : TFld Try.prog 69 1 1 := ⟨_, _, 0, Try.underlying69, rfl, rfl, by kernel_rfl⟩
instance : TFld Try.prog 69 2 2 := ⟨_, _, 0, Try.underlying69, rfl, rfl, by kernel_rfl⟩
instance : TFld Try.prog 69 3 3 := ⟨_, _, 0, Try.underlying69, rfl, rfl, by kernel_rfl⟩
instance : TFld Try.prog 69 4 4 := ⟨_, _, 0, Try.underlying69, rfl, rfl, by kernel_rfl⟩
instance : TEq Try.prog 69 [0, 0, 0, 0, 0] := ⟨by kernel_rfl, by kernel_rfl, _, Try.underlying69⟩
instance : TEl Try.prog 69 5 40 (.agg #[.int .i64 0, .int .i64 0, .int .i64 0, .int .i64 0, .int .i64 0]) := ⟨by kernel_rfl, rfl, by decide⟩
instance : TZero Try.prog 69 [.int .i64 0, .int .i64 0, .int .i64 0, .int .i64 0, .int .i64 0] := ⟨.agg #[.int .i64 0, .int .i64 0, .int .i64 0, .int .i64 0, .int .i64 0], by kernel_rfl, rfl⟩
instance : TRow Try.prog 71 5 := ⟨⟨_, Try.underlying71, rfl⟩, by kernel_rfl⟩
instance : TFld Try.prog 71 0 0 := ⟨_, _, 0, Try.underlying71, rfl, rfl, by kernel_rfl⟩
instance : TFld Try.prog 71 1 1 := ⟨_, _, 0, Try.underlying71, rfl, rfl, by kernel_rfl⟩
instance : TFld Try.prog 71 2 2 := ⟨_, _, 0, Try.underlying71, rfl, rfl, by kernel_rfl⟩
instance : TFld Try.prog 71 3 3 := ⟨_, _, 0, Try.underlying71, rfl, rfl, by kernel_rfl⟩
instance : TFld Try.prog 71 4 4 := ⟨_, _, 0, Try.underlying71, rfl, rfl, by kernel_rfl⟩
instance : TEq Try.prog 71 [0, 0, 0, 0, 0] := ⟨by kernel_rfl, by kernel_rfl, _, Try.underlying71⟩
instance : TEl Try.prog 71 5 40 (.agg #[.int .i64 0, .int .i64 0, .int .i64 0, .int .i64 0, .int .i64 0]) := ⟨by kernel_rfl, rfl, by decide⟩
instance : TZero Try.prog 71 [.int .i64 0, .int .i64 0, .int .i64 0, .int .i64 0, .int .i64 0] := ⟨.agg #[.int .i64 0, .int .i64 0, .int .i64 0, .int .i64 0, .int .i64 0], by kernel_rfl, rfl⟩
instance : TOne Try.prog 81 := ⟨⟨_, Try.underlying81, rfl⟩, by kernel_rfl⟩
instance : TSl Try.prog 81 3 1 := ⟨Try.underlying81, by kernel_rfl⟩
instance : TEl Try.prog 81 1 24 (.slice none 0 0) := ⟨by kernel_rfl, rfl, by decide⟩
instance : TZero Try.prog 81 [.slice none 0 0] := ⟨.slice none 0 0, by kernel_rfl, rfl⟩
instance : TRow Try.prog 82 2 := ⟨⟨_, Try.underlying82, rfl⟩, by kernel_rfl⟩
instance : TFld Try.prog 82 0 0 := ⟨_, _, 0, Try.underlying82, rfl, rfl, by kernel_rfl⟩
instance : TFld Try.prog 82 1 1 := ⟨_, _, 0, Try.underlying82, rfl, rfl, by kernel_rfl⟩
instance : TEq Try.prog 82 [0, 0] := ⟨by kernel_rfl, by kernel_rfl, _, Try.underlying82⟩
instance : TEl Try.prog 82 2 16 (.agg #[.int .i64 0, .int .i64 0]) := ⟨by kernel_rfl, rfl, by decide⟩
instance : TZero Try.prog 82 [.int .i64 0, .int .i64 0] := ⟨.agg #[.int .i64 0, .int .i64 0], by kernel_rfl, rfl⟩
instance : TRow Try.prog 83 2 := ⟨⟨_, Try.underlying83, rfl⟩, by kernel_rfl⟩
instance : TFld Try.prog 83 0 0 := ⟨_, _, 0, Try.underlying83, rfl, rfl, by kernel_rfl⟩
instance : TFld Try.prog 83 1 1 := ⟨_, _, 0, Try.underlying83, rfl, rfl, by kernel_rfl⟩
instance : TEq Try.prog 83 [0, 0] := ⟨by kernel_rfl, by kernel_rfl, _, Try.underlying83⟩
instance : TEl Try.prog 83 2 16 (.agg #[.int .i64 0, .int .i64 0]) := ⟨by kernel_rfl, rfl, by decide⟩
instance : TZero Try.prog 83 [.int .i64 0, .int .i64 0] := ⟨.agg #[.int .i64 0, .int .i64 0], by kernel_rfl, rfl⟩
instance : TRow Try.prog 84 12 := ⟨⟨_, Try.underlying84, rfl⟩, by kernel_rfl⟩
instance : TFld Try.prog 84 0 0 := ⟨_, _, 1, Try.underlying84, rfl, rfl, by kernel_rfl⟩
instance : TFld Try.prog 84 1 2 := ⟨_, _, 1, Try.underlying84, rfl, rfl, by kernel_rfl⟩
instance : TFld Try.prog 84 2 4 := ⟨_, _, 1, Try.underlying84, rfl, rfl, by kernel_rfl⟩
instance : TFld Try.prog 84 3 6 := ⟨_, _, 1, Try.underlying84, rfl, rfl, by kernel_rfl⟩
instance : TFld Try.prog 84 4 8 := ⟨_, _, 1, Try.underlying84, rfl, rfl, by kernel_rfl⟩
instance : TFld Try.prog 84 5 10 := ⟨_, _, 1, Try.underlying84, rfl, rfl, by kernel_rfl⟩
instance : TEq Try.prog 84 [0, 0, 0, 0, 0, 0, 0, 0, 0, 0, 0, 0] := ⟨by kernel_rfl, by kernel_rfl, _, Try.underlying84⟩
instance : TEl Try.prog 84 12 96 (.agg #[.int .i64 0, .int .i64 0, .int .i64 0, .int .i64 0, .int .i64 0, .int .i64 0, .int .i64 0, .int .i64 0, .int .i64 0, .int .i64 0, .int .i64 0, .int .i64 0]) := ⟨by kernel_rfl, rfl, by decide⟩
instance : TZero Try.prog 84 [.int .i64 0, .int .i64 0, .int .i64 0, .int .i64 0, .int .i64 0, .int .i64 0, .int .i64 0, .int .i64 0, .int .i64 0, .int .i64 0, .int .i64 0, .int .i64 0] := ⟨.agg #[.int .i64 0, .int .i64 0, .int .i64 0, .int .i64 0, .int .i64 0, .int .i64 0, .int .i64 0, .int .i64 0, .int .i64 0, .int .i64 0, .int .i64 0, .int .i64 0], by kernel_rfl, rfl⟩
instance : TRow Try.prog 85 12 := ⟨⟨_, Try.underlying85, rfl⟩, by kernel_rfl⟩
instance : TFld Try.prog 85 0 0 := ⟨_, _, 1, Try.underlying85, rfl, rfl, by kernel_rfl⟩
instance : TFld Try.prog 85 1 2 := ⟨_, _, 1, Try.underlying85, rfl, rfl, by kernel_rfl⟩
instance : TFld Try.prog 85 2 4 := ⟨_, _, 1, Try.underlying85, rfl, rfl, by kernel_rfl⟩
instance : TFld Try.prog 85 3 6 := ⟨_, _, 1, Try.underlying85, rfl, rfl, by kernel_rfl⟩
instance : TFld Try.prog 85 4 8 := ⟨_, _, 1, Try.underlying85, rfl, rfl, by kernel_rfl⟩
instance : TFld Try.prog 85 5 10 := ⟨_, _, 1, Try.underlying85, rfl, rfl, by kernel_rfl⟩
instance : TEq Try.prog 85 [0, 0, 0, 0, 0, 0, 0, 0, 0, 0, 0, 0] := ⟨by kernel_rfl, by kernel_rfl, _, Try.underlying85⟩
instance : TEl Try.prog 85 12 96 (.agg #[.int .i64 0, .int .i64 0, .int .i64 0, .int .i64 0, .int .i64 0, .int .i64 0, .int .i64 0, .int .i64 0, .int .i64 0, .int .i64 0, .int .i64 0, .int .i64 0]) := ⟨by kernel_rfl, rfl, by decide⟩
instance : TZero Try.prog 85 [.int .i64 0, .int .i64 0, .int .i64 0, .int .i64 0, .int .i64 0, .int .i64 0, .int .i64 0, .int .i64 0, .int .i64 0, .int .i64 0, .int .i64 0, .int .i64 0] := ⟨.agg #[.int .i64 0, .int .i64 0, .int .i64 0, .int .i64 0, .int .i64 0, .int .i64 0, .int .i64 0, .int .i64 0, .int .i64 0, .int .i64 0, .int .i64 0, .int .i64 0], by kernel_rfl, rfl⟩
instance : TRow Try.prog 86 4 := ⟨⟨_, Try.underlying86, rfl⟩, by kernel_rfl⟩
instance : TFld Try.prog 86 0 0 := ⟨_, _, 0, Try.underlying86, rfl, rfl, by kernel_rfl⟩
instance : TFld Try.prog 86 1 1 := ⟨_, _, 0, Try.underlying86, rfl, rfl, by kernel_rfl⟩
instance : TFld Try.prog 86 2 2 := ⟨_, _, 0, Try.underlying86, rfl, rfl, by kernel_rfl⟩
instance : TFld Try.prog 86 3 3 := ⟨_, _, 0, Try.underlying86, rfl, rfl, by kernel_rfl⟩
instance : TEq Try.prog 86 [0, 0, 0, 0] := ⟨by kernel_rfl, by kernel_rfl, _, Try.underlying86⟩
instance : TEl Try.prog 86 4 32 (.agg #[.int .i64 0, .int .i64 0, .int .i64 0, .int .i64 0]) := ⟨by kernel_rfl, rfl, by decide⟩
instance : TZero Try.prog 86 [.int .i64 0, .int .i64 0, .int .i64 0, .int .i64 0] := ⟨.agg #[.int .i64 0, .int .i64 0, .int .i64 0, .int .i64 0], by kernel_rfl, rfl⟩
instance : TRow Try.prog 87 4 := ⟨⟨_, Try.underlying87, rfl⟩, by kernel_rfl⟩
instance : TFld Try.prog 87 0 0 := ⟨_, _, 0, Try.underlying87, rfl, rfl, by kernel_rfl⟩
instance : TFld Try.prog 87 1 1 := ⟨_, _, 0, Try.underlying87, rfl, rfl, by kernel_rfl⟩
instance : TFld Try.prog 87 2 2 := ⟨_, _, 0, Try.underlying87, rfl, rfl, by kernel_rfl⟩
instance : TFld Try.prog 87 3 3 := ⟨_, _, 0, Try.underlying87, rfl, rfl, by kernel_rfl⟩
instance : TEq Try.prog 87 [0, 0, 0, 0] := ⟨by kernel_rfl, by kernel_rfl, _, Try.underlying87⟩
instance : TEl Try.prog 87 4 32 (.agg #[.int .i64 0, .int .i64 0, .int .i64 0, .int .i64 0]) := ⟨by kernel_rfl, rfl, by decide⟩
instance : TZero Try.prog 87 [.int .i64 0, .int .i64 0, .int .i64 0, .int .i64 0] := ⟨.agg #[.int .i64 0, .int .i64 0, .int .i64 0, .int .i64 0], by kernel_rfl, rfl⟩
instance : TRow Try.prog 88 60 := ⟨⟨_, Try.underlying88, rfl⟩, by kernel_rfl⟩
instance : TFld Try.prog 88 0 0 := ⟨_, _, 0, Try.underlying88, rfl, rfl, by kernel_rfl⟩
instance : TFld Try.prog 88 1 1 := ⟨_, _, 0, Try.underlying88, rfl, rfl, by kernel_rfl⟩
instance : TFld Try.prog 88 2 2 := ⟨_, _, 0, Try.underlying88, rfl, rfl, by kernel_rfl⟩
instance : TFld Try.prog 88 3 3 := ⟨_, _, 0, Try.underlying88, rfl, rfl, by kernel_rfl⟩
instance : TFld Try.prog 88 4 4 := ⟨_, _, 0, Try.underlying88, rfl, rfl, by kernel_rfl⟩
instance : TFld Try.prog 88 5 5 := ⟨_, _, 0, Try.underlying88, rfl, rfl, by kernel_rfl⟩
instance : TFld Try.prog 88 6 6 := ⟨_, _, 0, Try.underlying88, rfl, rfl, by kernel_rfl⟩
instance : TFld Try.prog 88 7 7 := ⟨_, _, 0, Try.underlying88, rfl, rfl, by kernel_rfl⟩
instance : TFld Try.prog 88 8 8 := ⟨_, _, 0, Try.underlying88, rfl, rfl, by kernel_rfl⟩
instance : TFld Try.prog 88 9 9 := ⟨_, _, 0, Try.underlying88, rfl, rfl, by kernel_rfl⟩
instance : TFld Try.prog 88 10 10 := ⟨_, _, 0, Try.underlying88, rfl, rfl, by kernel_rfl⟩
instance : TFld Try.prog 88 11 11 := ⟨_, _, 1, Try.underlying88, rfl, rfl, by kernel_rfl⟩
instance : TFld Try.prog 88 12 13 := ⟨_, _, 1, Try.underlying88, rfl, rfl, by kernel_rfl⟩
instance : TFld Try.prog 88 13 15 := ⟨_, _, 1, Try.underlying88, rfl, rfl, by kernel_rfl⟩
instance : TFld Try.prog 88 14 17 := ⟨_, _, 1, Try.underlying88, rfl, rfl, by kernel_rfl⟩
instance : TFld Try.prog 88 15 19 := ⟨_, _, 1, Try.underlying88, rfl, rfl, by kernel_rfl⟩
instance : TFld Try.prog 88 16 21 := ⟨_, _, 1, Try.underlying88, rfl, rfl, by kernel_rfl⟩
instance : TFld Try.prog 88 17 23 := ⟨_, _, 1, Try.underlying88, rfl, rfl, by kernel_rfl⟩
instance : TFld Try.prog 88 18 25 := ⟨_, _, 0, Try.underlying88, rfl, rfl, by kernel_rfl⟩
instance : TFld Try.prog 88 19 26 := ⟨_, _, 11, Try.underlying88, rfl, rfl, by kernel_rfl⟩
instance : TFld Try.prog 88 20 38 := ⟨_, _, 11, Try.underlying88, rfl, rfl, by kernel_rfl⟩
instance : TFld Try.prog 88 21 50 := ⟨_, _, 3, Try.underlying88, rfl, rfl, by kernel_rfl⟩
instance : TFld Try.prog 88 22 54 := ⟨_, _, 3, Try.underlying88, rfl, rfl, by kernel_rfl⟩
instance : TFld Try.prog 88 23 58 := ⟨_, _, 0, Try.underlying88, rfl, rfl, by kernel_rfl⟩
instance : TFld Try.prog 88 24 59 := ⟨_, _, 0, Try.underlying88, rfl, rfl, by kernel_rfl⟩
instance : TEq Try.prog 88 [0, 0, 0, 0, 0, 0, 1, 1, 0, 0, 0, 0, 0, 0, 0, 0, 0, 0, 0, 0, 0, 0, 0, 0, 0, 0, 0, 0, 0, 0, 0, 0, 0, 0, 0, 0, 0, 0, 0, 0, 0, 0, 0, 0, 0, 0, 0, 0, 0, 0, 0, 0, 0, 0, 0, 0, 0, 0, 0, 0] := ⟨by kernel_rfl, by kernel_rfl, _, Try.underlying88⟩
instance : TEl Try.prog 88 60 472 (.agg #[.int .i64 0, .int .i64 0, .int .i64 0, .int .i64 0, .int .i64 0, .int .i64 0, .bool false, .bool false, .int .i64 0, .int .i64 0, .int .i64 0, .int .i64 0, .int .i64 0, .int .i64 0, .int .i64 0, .int .i64 0, .int .i64 0, .int .i64 0, .int .i64 0, .int .i64 0, .int .i64 0, .int .i64 0, .int .i64 0, .int .i64 0, .int .i64 0, .int .i64 0, .int .i64 0, .int .i64 0, .int .i64 0, .int .i64 0, .int .i64 0, .int .i64 0, .int .i64 0, .int .i64 0, .int .i64 0, .int .i64 0, .int .i64 0, .int .i64 0, .int .i64 0, .int .i64 0, .int .i64 0, .int .i64 0, .int .i64 0, .int .i64 0, .int .i64 0, .int .i64 0, .int .i64 0, .int .i64 0, .int .i64 0, .int .i64 0, .int .i64 0, .int .i64 0, .int .i64 0, .int .i64 0, .int .i64 0, .int .i64 0, .int .i64 0, .int .i64 0, .int .i64 0, .int .i64 0]) := ⟨by kernel_rfl, rfl, by decide⟩
instance : TZero Try.prog 88 [.int .i64 0, .int .i64 0, .int .i64 0, .int .i64 0, .int .i64 0, .int .i64 0, .bool false, .bool false, .int .i64 0, .int .i64 0, .int .i64 0, .int .i64 0, .int .i64 0, .int .i64 0, .int .i64 0, .int .i64 0, .int .i64 0, .int .i64 0, .int .i64 0, .int .i64 0, .int .i64 0, .int .i64 0, .int .i64 0, .int .i64 0, .int .i64 0, .int .i64 0, .int .i64 0, .int .i64 0, .int .i64 0, .int .i64 0, .int .i64 0, .int .i64 0, .int .i64 0, .int .i64 0, .int .i64 0, .int .i64 0, .int .i64 0, .int .i64 0, .int .i64 0, .int .i64 0, .int .i64 0, .int .i64 0, .int .i64 0, .int .i64 0, .int .i64 0, .int .i64 0, .int .i64 0, .int .i64 0, .int .i64 0, .int .i64 0, .int .i64 0, .int .i64 0, .int .i64 0, .int .i64 0, .int .i64 0, .int .i64 0, .int .i64 0, .int .i64 0, .int .i64 0, .int .i64 0] := ⟨.agg #[.int .i64 0, .int .i64 0, .int .i64 0, .int .i64 0, .int .i64 0, .int .i64 0, .bool false, .bool false, .int .i64 0, .int .i64 0, .int .i64 0, .int .i64 0, .int .i64 0, .int .i64 0, .int .i64 0, .int .i64 0, .int .i64 0, .int .i64 0, .int .i64 0, .int .i64 0, .int .i64 0, .int .i64 0, .int .i64 0, .int .i64 0, .int .i64 0, .int .i64 0, .int .i64 0, .int .i64 0, .int .i64 0, .int .i64 0, .int .i64 0, .int .i64 0, .int .i64 0, .int .i64 0, .int .i64 0, .int .i64 0, .int .i64 0, .int .i64 0, .int .i64 0, .int .i64 0, .int .i64 0, .int .i64 0, .int .i64 0, .int .i64 0, .int .i64 0, .int .i64 0, .int .i64 0, .int .i64 0, .int .i64 0, .int .i64 0, .int .i64 0, .int .i64 0, .int .i64 0, .int .i64 0, .int .i64 0, .int .i64 0, .int .i64 0, .int .i64 0, .int .i64 0, .int .i64 0], by kernel_rfl, rfl⟩
instance : TRow Try.prog 89 60 := ⟨⟨_, Try.underlying89, rfl⟩, by kernel_rfl⟩
instance : TFld Try.prog 89 0 0 := ⟨_, _, 0, Try.underlying89, rfl, rfl, by kernel_rfl⟩
instance : TFld Try.prog 89 1 1 := ⟨_, _, 0, Try.underlying89, rfl, rfl, by kernel_rfl⟩
instance : TFld Try.prog 89 2 2 := ⟨_, _, 0, Try.underlying89, rfl, rfl, by kernel_rfl⟩
instance : TFld Try.prog 89 3 3 := ⟨_, _, 0, Try.underlying89, rfl, rfl, by kernel_rfl⟩
instance : TFld Try.prog 89 4 4 := ⟨_, _, 0, Try.underlying89, rfl, rfl, by kernel_rfl⟩
instance : TFld Try.prog 89 5 5 := ⟨_, _, 0, Try.underlying89, rfl, rfl, by kernel_rfl⟩
instance : TFld Try.prog 89 6 6 := ⟨_, _, 0, Try.underlying89, rfl, rfl, by kernel_rfl⟩
instance : TFld Try.prog 89 7 7 := ⟨_, _, 0, Try.underlying89, rfl, rfl, by kernel_rfl⟩
instance : TFld Try.prog 89 8 8 := ⟨_, _, 0, Try.underlying89, rfl, rfl, by kernel_rfl⟩
instance : TFld Try.prog 89 9 9 := ⟨_, _, 0, Try.underlying89, rfl, rfl, by kernel_rfl⟩
instance : TFld Try.prog 89 10 10 := ⟨_, _, 0, Try.underlying89, rfl, rfl, by kernel_rfl⟩
instance : TFld Try.prog 89 11 11 := ⟨_, _, 1, Try.underlying89, rfl, rfl, by kernel_rfl⟩
instance : TFld Try.prog 89 12 13 := ⟨_, _, 1, Try.underlying89, rfl, rfl, by kernel_rfl⟩
instance : TFld Try.prog 89 13 15 := ⟨_, _, 1, Try.underlying89, rfl, rfl, by kernel_rfl⟩
instance : TFld Try.prog 89 14 17 := ⟨_, _, 1, Try.underlying89, rfl, rfl, by kernel_rfl⟩
instance : TFld Try.prog 89 15 19 := ⟨_, _, 1, Try.underlying89, rfl, rfl, by kernel_rfl⟩
instance : TFld Try.prog 89 16 21 := ⟨_, _, 1, Try.underlying89, rfl, rfl, by kernel_rfl⟩
instance : TFld Try.prog 89 17 23 := ⟨_, _, 1, Try.underlying89, rfl, rfl, by kernel_rfl⟩
instance : TFld Try.prog 89 18 25 := ⟨_, _, 0, Try.underlying89, rfl, rfl, by kernel_rfl⟩
instance : TFld Try.prog 89 19 26 := ⟨_, _, 11, Try.underlying89, rfl, rfl, by kernel_rfl⟩
instance : TFld Try.prog 89 20 38 := ⟨_, _, 11, Try.underlying89, rfl, rfl, by kernel_rfl⟩
instance : TFld Try.prog 89 21 50 := ⟨_, _, 3, Try.underlying89, rfl, rfl, by kernel_rfl⟩
instance : TFld Try.prog 89 22 54 := ⟨_, _, 3, Try.underlying89, rfl, rfl, by kernel_rfl⟩
instance : TFld Try.prog 89 23 58 := ⟨_, _, 0, Try.underlying89, rfl, rfl, by kernel_rfl⟩
instance : TFld Try.prog 89 24 59 := ⟨_, _, 0, Try.underlying89, rfl, rfl, by kernel_rfl⟩
instance : TEq Try.prog 89 [0, 0, 0, 0, 0, 0, 1, 1, 0, 0, 0, 0, 0, 0, 0, 0, 0, 0, 0, 0, 0, 0, 0, 0, 0, 0, 0, 0, 0, 0, 0, 0, 0, 0, 0, 0, 0, 0, 0, 0, 0, 0, 0, 0, 0, 0, 0, 0, 0, 0, 0, 0, 0, 0, 0, 0, 0, 0, 0, 0] := ⟨by kernel_rfl, by kernel_rfl, _, Try.underlying89⟩
instance : TEl Try.prog 89 60 472 (.agg #[.int .i64 0, .int .i64 0, .int .i64 0, .int .i64 0, .int .i64 0, .int .i64 0, .bool false, .bool false, .int .i64 0, .int .i64 0, .int .i64 0, .int .i64 0, .int .i64 0, .int .i64 0, .int .i64 0, .int .i64 0, .int .i64 0, .int .i64 0, .int .i64 0, .int .i64 0, .int .i64 0, .int .i64 0, .int .i64 0, .int .i64 0, .int .i64 0, .int .i64 0, .int .i64 0, .int .i64 0, .int .i64 0, .int .i64 0, .int .i64 0, .int .i64 0, .int .i64 0, .int .i64 0, .int .i64 0, .int .i64 0, .int .i64 0, .int .i64 0, .int .i64 0, .int .i64 0, .int .i64 0, .int .i64 0, .int .i64 0, .int .i64 0, .int .i64 0, .int .i64 0, .int .i64 0, .int .i64 0, .int .i64 0, .int .i64 0, .int .i64 0, .int .i64 0, .int .i64 0, .int .i64 0, .int .i64 0, .int .i64 0, .int .i64 0, .int .i64 0, .int .i64 0, .int .i64 0]) := ⟨by kernel_rfl, rfl, by decide⟩
instance : TZero Try.prog 89 [.int .i64 0, .int .i64 0, .int .i64 0, .int .i64 0, .int .i64 0, .int .i64 0, .bool false, .bool false, .int .i64 0, .int .i64 0, .int .i64 0, .int .i64 0, .int .i64 0, .int .i64 0, .int .i64 0, .int .i64 0, .int .i64 0, .int .i64 0, .int .i64 0, .int .i64 0, .int .i64 0, .int .i64 0, .int .i64 0, .int .i64 0, .int .i64 0, .int .i64 0, .int .i64 0, .int .i64 0, .int .i64 0, .int .i64 0, .int .i64 0, .int .i64 0, .int .i64 0, .int .i64 0, .int .i64 0, .int .i64 0, .int .i64 0, .int .i64 0, .int .i64 0, .int .i64 0, .int .i64 0, .int .i64 0, .int .i64 0, .int .i64 0, .int .i64 0, .int .i64 0, .int .i64 0, .int .i64 0, .int .i64 0, .int .i64 0, .int .i64 0, .int .i64 0, .int .i64 0, .int .i64 0, .int .i64 0, .int .i64 0, .int .i64 0, .int .i64 0, .int .i64 0, .int .i64 0] := ⟨.agg #[.int .i64 0, .int .i64 0, .int .i64 0, .int .i64 0, .int .i64 0, .int .i64 0, .bool false, .bool false, .int .i64 0, .int .i64 0, .int .i64 0, .int .i64 0, .int .i64 0, .int .i64 0, .int .i64 0, .int .i64 0, .int .i64 0, .int .i64 0, .int .i64 0, .int .i64 0, .int .i64 0, .int .i64 0, .int .i64 0, .int .i64 0, .int .i64 0, .int .i64 0, .int .i64 0, .int .i64 0, .int .i64 0, .int .i64 0, .int .i64 0, .int .i64 0, .int .i64 0, .int .i64 0, .int .i64 0, .int .i64 0, .int .i64 0, .int .i64 0, .int .i64 0, .int .i64 0, .int .i64 0, .int .i64 0, .int .i64 0, .int .i64 0, .int .i64 0, .int .i64 0, .int .i64 0, .int .i64 0, .int .i64 0, .int .i64 0, .int .i64 0, .int .i64 0, .int .i64 0, .int .i64 0, .int .i64 0, .int .i64 0, .int .i64 0, .int .i64 0, .int .i64 0, .int .i64 0], by kernel_rfl, rfl⟩
instance : TOne Try.prog 90 := ⟨⟨_, Try.underlying90, rfl⟩, by kernel_rfl⟩
instance : TSl Try.prog 90 156 3 := ⟨Try.underlying90, by kernel_rfl⟩
instance : TEl Try.prog 90 1 24 (.slice none 0 0) := ⟨by kernel_rfl, rfl, by decide⟩
instance : TZero Try.prog 90 [.slice none 0 0] := ⟨.slice none 0 0, by kernel_rfl, rfl⟩
instance : TRow Try.prog 91 1 := ⟨⟨_, Try.underlying91, rfl⟩, by kernel_rfl⟩
instance : TFld Try.prog 91 0 0 := ⟨_, _, 0, Try.underlying91, rfl, rfl, by kernel_rfl⟩
instance : TEl Try.prog 91 1 24 (.agg #[.slice none 0 0]) := ⟨by kernel_rfl, rfl, by decide⟩
instance : TZero Try.prog 91 [.slice none 0 0] := ⟨.agg #[.slice none 0 0], by kernel_rfl, rfl⟩
instance : TRow Try.prog 92 1 := ⟨⟨_, Try.underlying92, rfl⟩, by kernel_rfl⟩
instance : TFld Try.prog 92 0 0 := ⟨_, _, 0, Try.underlying92, rfl, rfl, by kernel_rfl⟩
instance : TEl Try.prog 92 1 24 (.agg #[.slice none 0 0]) := ⟨by kernel_rfl, rfl, by decide⟩
instance : TZero Try.prog 92 [.slice none 0 0] := ⟨.agg #[.slice none 0 0], by kernel_rfl, rfl⟩
instance : TRow Try.prog 93 64 := ⟨⟨_, Try.underlying93, rfl⟩, by kernel_rfl⟩
instance : TFld Try.prog 93 0 0 := ⟨_, _, 0, Try.underlying93, rfl, rfl, by kernel_rfl⟩
instance : TFld Try.prog 93 1 1 := ⟨_, _, 0, Try.underlying93, rfl, rfl, by kernel_rfl⟩
instance : TFld Try.prog 93 2 2 := ⟨_, _, 59, Try.underlying93, rfl, rfl, by kernel_rfl⟩
instance : TFld Try.prog 93 3 62 := ⟨_, _, 0, Try.underlying93, rfl, rfl, by kernel_rfl⟩
instance : TFld Try.prog 93 4 63 := ⟨_, _, 0, Try.underlying93, rfl, rfl, by kernel_rfl⟩
instance : TEl Try.prog 93 64 536 (.agg #[.int .i64 0, .slice none 0 0, .int .i64 0, .int .i64 0, .int .i64 0, .int .i64 0, .int .i64 0, .int .i64 0, .bool false, .bool false, .int .i64 0, .int .i64 0, .int .i64 0, .int .i64 0, .int .i64 0, .int .i64 0, .int .i64 0, .int .i64 0, .int .i64 0, .int .i64 0, .int .i64 0, .int .i64 0, .int .i64 0, .int .i64 0, .int .i64 0, .int .i64 0, .int .i64 0, .int .i64 0, .int .i64 0, .int .i64 0, .int .i64 0, .int .i64 0, .int .i64 0, .int .i64 0, .int .i64 0, .int .i64 0, .int .i64 0, .int .i64 0, .int .i64 0, .int .i64 0, .int .i64 0, .int .i64 0, .int .i64 0, .int .i64 0, .int .i64 0, .int .i64 0, .int .i64 0, .int .i64 0, .int .i64 0, .int .i64 0, .int .i64 0, .int .i64 0, .int .i64 0, .int .i64 0, .int .i64 0, .int .i64 0, .int .i64 0, .int .i64 0, .int .i64 0, .int .i64 0, .int .i64 0, .int .i64 0, .bool false, .slice none 0 0]) := ⟨by kernel_rfl, rfl, by decide⟩
instance : TZero Try.prog 93 [.int .i64 0, .slice none 0 0, .int .i64 0, .int .i64 0, .int .i64 0, .int .i64 0, .int .i64 0, .int .i64 0, .bool false, .bool false, .int .i64 0, .int .i64 0, .int .i64 0, .int .i64 0, .int .i64 0, .int .i64 0, .int .i64 0, .int .i64 0, .int .i64 0, .int .i64 0, .int .i64 0, .int .i64 0, .int .i64 0, .int .i64 0, .int .i64 0, .int .i64 0, .int .i64 0, .int .i64 0, .int .i64 0, .int .i64 0, .int .i64 0, .int .i64 0, .int .i64 0, .int .i64 0, .int .i64 0, .int .i64 0, .int .i64 0, .int .i64 0, .int .i64 0, .int .i64 0, .int .i64 0, .int .i64 0, .int .i64 0, .int .i64 0, .int .i64 0, .int .i64 0, .int .i64 0, .int .i64 0, .int .i64 0, .int .i64 0, .int .i64 0, .int .i64 0, .int .i64 0, .int .i64 0, .int .i64 0, .int .i64 0, .int .i64 0, .int .i64 0, .int .i64 0, .int .i64 0, .int .i64 0, .int .i64 0, .bool false, .slice none 0 0] := ⟨.agg #[.int .i64 0, .slice none 0 0, .int .i64 0, .int .i64 0, .int .i64 0, .int .i64 0, .int .i64 0, .int .i64 0, .bool false, .bool false, .int .i64 0, .int .i64 0, .int .i64 0, .int .i64 0, .int .i64 0, .int .i64 0, .int .i64 0, .int .i64 0, .int .i64 0, .int .i64 0, .int .i64 0, .int .i64 0, .int .i64 0, .int .i64 0, .int .i64 0, .int .i64 0, .int .i64 0, .int .i64 0, .int .i64 0, .int .i64 0, .int .i64 0, .int .i64 0, .int .i64 0, .int .i64 0, .int .i64 0, .int .i64 0, .int .i64 0, .int .i64 0, .int .i64 0, .int .i64 0, .int .i64 0, .int .i64 0, .int .i64 0, .int .i64 0, .int .i64 0, .int .i64 0, .int .i64 0, .int .i64 0, .int .i64 0, .int .i64 0, .int .i64 0, .int .i64 0, .int .i64 0, .int .i64 0, .int .i64 0, .int .i64 0, .int .i64 0, .int .i64 0, .int .i64 0, .int .i64 0, .int .i64 0, .int .i64 0, .bool false, .slice none 0 0], by kernel_rfl, rfl⟩
instance : TRow Try.prog 94 64 := ⟨⟨_, Try.underlying94, rfl⟩, by kernel_rfl⟩
instance : TFld Try.prog 94 0 0 := ⟨_, _, 0, Try.underlying94, rfl, rfl, by kernel_rfl⟩
instance : TFld Try.prog 94 1 1 := ⟨_, _, 0, Try.underlying94, rfl, rfl, by kernel_rfl⟩
instance : TFld Try.prog 94 2 2 := ⟨_, _, 59, Try.underlying94, rfl, rfl, by kernel_rfl⟩
instance : TFld Try.prog 94 3 62 := ⟨_, _, 0, Try.underlying94, rfl, rfl, by kernel_rfl⟩
instance : TFld Try.prog 94 4 63 := ⟨_, _, 0, Try.underlying94, rfl, rfl, by kernel_rfl⟩
instance : TEl Try.prog 94 64 536 (.agg #[.int .i64 0, .slice none 0 0, .int .i64 0, .int .i64 0, .int .i64 0, .int .i64 0, .int .i64 0, .int .i64 0, .bool false, .bool false, .int .i64 0, .int .i64 0, .int .i64 0, .int .i64 0, .int .i64 0, .int .i64 0, .int .i64 0, .int .i64 0, .int .i64 0, .int .i64 0, .int .i64 0, .int .i64 0, .int .i64 0, .int .i64 0, .int .i64 0, .int .i64 0, .int .i64 0, .int .i64 0, .int .i64 0, .int .i64 0, .int .i64 0, .int .i64 0, .int .i64 0, .int .i64 0, .int .i64 0, .int .i64 0, .int .i64 0, .int .i64 0, .int .i64 0, .int .i64 0, .int .i64 0, .int .i64 0, .int .i64 0, .int .i64 0, .int .i64 0, .int .i64 0, .int .i64 0, .int .i64 0, .int .i64 0, .int .i64 0, .int .i64 0, .int .i64 0, .int .i64 0, .int .i64 0, .int .i64 0, .int .i64 0, .int .i64 0, .int .i64 0, .int .i64 0, .int .i64 0, .int .i64 0, .int .i64 0, .bool false, .slice none 0 0]) := ⟨by kernel_rfl, rfl, by decide⟩
instance : TZero Try.prog 94 [.int .i64 0, .slice none 0 0, .int .i64 0, .int .i64 0, .int .i64 0, .int .i64 0, .int .i64 0, .int .i64 0, .bool false, .bool false, .int .i64 0, .int .i64 0, .int .i64 0, .int .i64 0, .int .i64 0, .int .i64 0, .int .i64 0, .int .i64 0, .int .i64 0, .int .i64 0, .int .i64 0, .int .i64 0, .int .i64 0, .int .i64 0, .int .i64 0, .int .i64 0, .int .i64 0, .int .i64 0, .int .i64 0, .int .i64 0, .int .i64 0, .int .i64 0, .int .i64 0, .int .i64 0, .int .i64 0, .int .i64 0, .int .i64 0, .int .i64 0, .int .i64 0, .int .i64 0, .int .i64 0, .int .i64 0, .int .i64 0, .int .i64 0, .int .i64 0, .int .i64 0, .int .i64 0, .int .i64 0, .int .i64 0, .int .i64 0, .int .i64 0, .int .i64 0, .int .i64 0, .int .i64 0, .int .i64 0, .int .i64 0, .int .i64 0, .int .i64 0, .int .i64 0, .int .i64 0, .int .i64 0, .int .i64 0, .bool false, .slice none 0 0] := ⟨.agg #[.int .i64 0, .slice none 0 0, .int .i64 0, .int .i64 0, .int .i64 0, .int .i64 0, .int .i64 0, .int .i64 0, .bool false, .bool false, .int .i64 0, .int .i64 0, .int .i64 0, .int .i64 0, .int .i64 0, .int .i64 0, .int .i64 0, .int .i64 0, .int .i64 0, .int .i64 0, .int .i64 0, .int .i64 0, .int .i64 0, .int .i64 0, .int .i64 0, .int .i64 0, .int .i64 0, .int .i64 0, .int .i64 0, .int .i64 0, .int .i64 0, .int .i64 0, .int .i64 0, .int .i64 0, .int .i64 0, .int .i64 0, .int .i64 0, .int .i64 0, .int .i64 0, .int .i64 0, .int .i64 0, .int .i64 0, .int .i64 0, .int .i64 0, .int .i64 0, .int .i64 0, .int .i64 0, .int .i64 0, .int .i64 0, .int .i64 0, .int .i64 0, .int .i64 0, .int .i64 0, .int .i64 0, .int .i64 0, .int .i64 0, .int .i64 0, .int .i64 0, .int .i64 0, .int .i64 0, .int .i64 0, .int .i64 0, .bool false, .slice none 0 0], by kernel_rfl, rfl⟩
instance : TRow Try.prog 96 2 := ⟨⟨_, Try.underlying96, rfl⟩, by kernel_rfl⟩
instance : TFld Try.prog 96 0 0 := ⟨_, _, 0, Try.underlying96, rfl, rfl, by kernel_rfl⟩
instance : TFld Try.prog 96 1 1 := ⟨_, _, 0, Try.underlying96, rfl, rfl, by kernel_rfl⟩
instance : TEq Try.prog 96 [0, 0] := ⟨by kernel_rfl, by kernel_rfl, _, Try.underlying96⟩
instance : TEl Try.prog 96 2 16 (.agg #[.int .i64 0, .int .i64 0]) := ⟨by kernel_rfl, rfl, by decide⟩
instance : TZero Try.prog 96 [.int .i64 0, .int .i64 0] := ⟨.agg #[.int .i64 0, .int .i64 0], by kernel_rfl, rfl⟩
instance : TRow Try.prog 97 2 := ⟨⟨_, Try.underlying97, rfl⟩, by kernel_rfl⟩
instance : TFld Try.prog 97 0 0 := ⟨_, _, 0, Try.underlying97, rfl, rfl, by kernel_rfl⟩
instance : TFld Try.prog 97 1 1 := ⟨_, _, 0, Try.underlying97, rfl, rfl, by kernel_rfl⟩
instance : TEq Try.prog 97 [0, 0] := ⟨by kernel_rfl, by kernel_rfl, _, Try.underlying97⟩
instance : TEl Try.prog 97 2 16 (.agg #[.int .i64 0, .int .i64 0]) := ⟨by kernel_rfl, rfl, by decide⟩
instance : TZero Try.prog 97 [.int .i64 0, .int .i64 0] := ⟨.agg #[.int .i64 0, .int .i64 0], by kernel_rfl, rfl⟩
instance : TRow Try.prog 98 4 := ⟨⟨_, Try.underlying98, rfl⟩, by kernel_rfl⟩
instance : TFld Try.prog 98 0 0 := ⟨_, _, 0, Try.underlying98, rfl, rfl, by kernel_rfl⟩
instance : TFld Try.prog 98 1 1 := ⟨_, _, 0, Try.underlying98, rfl, rfl, by kernel_rfl⟩
instance : TFld Try.prog 98 2 2 := ⟨_, _, 0, Try.underlying98, rfl, rfl, by kernel_rfl⟩
instance : TFld Try.prog 98 3 3 := ⟨_, _, 0, Try.underlying98, rfl, rfl, by kernel_rfl⟩
instance : TEl Try.prog 98 4 48 (.agg #[.int .i64 0, .int .i64 0, .int .i64 0, .slice none 0 0]) := ⟨by kernel_rfl, rfl, by decide⟩
instance : TZero Try.prog 98 [.int .i64 0, .int .i64 0, .int .i64 0, .slice none 0 0] := ⟨.agg #[.int .i64 0, .int .i64 0, .int .i64 0, .slice none 0 0], by kernel_rfl, rfl⟩
instance : TRow Try.prog 99 4 := ⟨⟨_, Try.underlying99, rfl⟩, by kernel_rfl⟩
instance : TFld Try.prog 99 0 0 := ⟨_, _, 0, Try.underlying99, rfl, rfl, by kernel_rfl⟩
instance : TFld Try.prog 99 1 1 := ⟨_, _, 0, Try.underlying99, rfl, rfl, by kernel_rfl⟩
instance : TFld Try.prog 99 2 2 := ⟨_, _, 0, Try.underlying99, rfl, rfl, by kernel_rfl⟩
instance : TFld Try.prog 99 3 3 := ⟨_, _, 0, Try.underlying99, rfl, rfl, by kernel_rfl⟩
instance : TEl Try.prog 99 4 48 (.agg #[.int .i64 0, .int .i64 0, .int .i64 0, .slice none 0 0]) := ⟨by kernel_rfl, rfl, by decide⟩
instance : TZero Try.prog 99 [.int .i64 0, .int .i64 0, .int .i64 0, .slice none 0 0] := ⟨.agg #[.int .i64 0, .int .i64 0, .int .i64 0, .slice none 0 0], by kernel_rfl, rfl⟩
instance : TRow Try.prog 100 10 := ⟨⟨_, Try.underlying100, rfl⟩, by kernel_rfl⟩
instance : TFld Try.prog 100 0 0 := ⟨_, _, 0, Try.underlying100, rfl, rfl, by kernel_rfl⟩
instance : TFld Try.prog 100 1 1 := ⟨_, _, 1, Try.underlying100, rfl, rfl, by kernel_rfl⟩
instance : TFld Try.prog 100 2 3 := ⟨_, _, 1, Try.underlying100, rfl, rfl, by kernel_rfl⟩
instance : TFld Try.prog 100 3 5 := ⟨_, _, 0, Try.underlying100, rfl, rfl, by kernel_rfl⟩
instance : TFld Try.prog 100 4 6 := ⟨_, _, 3, Try.underlying100, rfl, rfl, by kernel_rfl⟩
instance : TEl Try.prog 100 10 96 (.agg #[.int .i64 0, .int .i64 0, .int .i64 0, .int .i64 0, .int .i64 0, .bool false, .int .i64 0, .int .i64 0, .int .i64 0, .slice none 0 0]) := ⟨by kernel_rfl, rfl, by decide⟩
instance : TZero Try.prog 100 [.int .i64 0, .int .i64 0, .int .i64 0, .int .i64 0, .int .i64 0, .bool false, .int .i64 0, .int .i64 0, .int .i64 0, .slice none 0 0] := ⟨.agg #[.int .i64 0, .int .i64 0, .int .i64 0, .int .i64 0, .int .i64 0, .bool false, .int .i64 0, .int .i64 0, .int .i64 0, .slice none 0 0], by kernel_rfl, rfl⟩
instance : TRow Try.prog 101 10 := ⟨⟨_, Try.underlying101, rfl⟩, by kernel_rfl⟩
instance : TFld Try.prog 101 0 0 := ⟨_, _, 0, Try.underlying101, rfl, rfl, by kernel_rfl⟩
instance : TFld Try.prog 101 1 1 := ⟨_, _, 1, Try.underlying101, rfl, rfl, by kernel_rfl⟩
instance : TFld Try.prog 101 2 3 := ⟨_, _, 1, Try.underlying101, rfl, rfl, by kernel_rfl⟩
instance : TFld Try.prog 101 3 5 := ⟨_, _, 0, Try.underlying101, rfl, rfl, by kernel_rfl⟩
instance : TFld Try.prog 101 4 6 := ⟨_, _, 3, Try.underlying101, rfl, rfl, by kernel_rfl⟩
instance : TEl Try.prog 101 10 96 (.agg #[.int .i64 0, .int .i64 0, .int .i64 0, .int .i64 0, .int .i64 0, .bool false, .int .i64 0, .int .i64 0, .int .i64 0, .slice none 0 0]) := ⟨by kernel_rfl, rfl, by decide⟩
instance : TZero Try.prog 101 [.int .i64 0, .int .i64 0, .int .i64 0, .int .i64 0, .int .i64 0, .bool false, .int .i64 0, .int .i64 0, .int .i64 0, .slice none 0 0] := ⟨.agg #[.int .i64 0, .int .i64 0, .int .i64 0, .int .i64 0, .int .i64 0, .bool false, .int .i64 0, .int .i64 0, .int .i64 0, .slice none 0 0], by kernel_rfl, rfl⟩
instance : TRow Try.prog 102 2 := ⟨⟨_, Try.underlying102, rfl⟩, by kernel_rfl⟩
instance : TFld Try.prog 102 0 0 := ⟨_, _, 0, Try.underlying102, rfl, rfl, by kernel_rfl⟩
instance : TFld Try.prog 102 1 1 := ⟨_, _, 0, Try.underlying102, rfl, rfl, by kernel_rfl⟩
instance : TEq Try.prog 102 [0, 0] := ⟨by kernel_rfl, by kernel_rfl, _, Try.underlying102⟩
instance : TEl Try.prog 102 2 16 (.agg #[.int .i64 0, .int .i64 0]) := ⟨by kernel_rfl, rfl, by decide⟩
instance : TZero Try.prog 102 [.int .i64 0, .int .i64 0] := ⟨.agg #[.int .i64 0, .int .i64 0], by kernel_rfl, rfl⟩
instance : TRow Try.prog 103 12 := ⟨⟨_, Try.underlying103, rfl⟩, by kernel_rfl⟩
instance : TFld Try.prog 103 0 0 := ⟨_, _, 1, Try.underlying103, rfl, rfl, by kernel_rfl⟩
instance : TFld Try.prog 103 1 2 := ⟨_, _, 1, Try.underlying103, rfl, rfl, by kernel_rfl⟩
instance : TFld Try.prog 103 2 4 := ⟨_, _, 1, Try.underlying103, rfl, rfl, by kernel_rfl⟩
instance : TFld Try.prog 103 3 6 := ⟨_, _, 1, Try.underlying103, rfl, rfl, by kernel_rfl⟩
instance : TFld Try.prog 103 4 8 := ⟨_, _, 1, Try.underlying103, rfl, rfl, by kernel_rfl⟩
instance : TFld Try.prog 103 5 10 := ⟨_, _, 1, Try.underlying103, rfl, rfl, by kernel_rfl⟩
instance : TEq Try.prog 103 [0, 0, 0, 0, 0, 0, 0, 0, 0, 0, 0, 0] := ⟨by kernel_rfl, by kernel_rfl, _, Try.underlying103⟩
instance : TEl Try.prog 103 12 96 (.agg #[.int .i64 0, .int .i64 0, .int .i64 0, .int .i64 0, .int .i64 0, .int .i64 0, .int .i64 0, .int .i64 0, .int .i64 0, .int .i64 0, .int .i64 0, .int .i64 0]) := ⟨by kernel_rfl, rfl, by decide⟩
instance : TZero Try.prog 103 [.int .i64 0, .int .i64 0, .int .i64 0, .int .i64 0, .int .i64 0, .int .i64 0, .int .i64 0, .int .i64 0, .int .i64 0, .int .i64 0, .int .i64 0, .int .i64 0] := ⟨.agg #[.int .i64 0, .int .i64 0, .int .i64 0, .int .i64 0, .int .i64 0, .int .i64 0, .int .i64 0, .int .i64 0, .int .i64 0, .int .i64 0, .int .i64 0, .int .i64 0], by kernel_rfl, rfl⟩
instance : TRow Try.prog 104 12 := ⟨⟨_, Try.underlying104, rfl⟩, by kernel_rfl⟩
instance : TFld Try.prog 104 0 0 := ⟨_, _, 1, Try.underlying104, rfl, rfl, by kernel_rfl⟩
instance : TFld Try.prog 104 1 2 := ⟨_, _, 1, Try.underlying104, rfl, rfl, by kernel_rfl⟩
instance : TFld Try.prog 104 2 4 := ⟨_, _, 1, Try.underlying104, rfl, rfl, by kernel_rfl⟩
instance : TFld Try.prog 104 3 6 := ⟨_, _, 1, Try.underlying104, rfl, rfl, by kernel_rfl⟩
instance : TFld Try.prog 104 4 8 := ⟨_, _, 1, Try.underlying104, rfl, rfl, by kernel_rfl⟩
instance : TFld Try.prog 104 5 10 := ⟨_, _, 1, Try.underlying104, rfl, rfl, by kernel_rfl⟩
instance : TEq Try.prog 104 [0, 0, 0, 0, 0, 0, 0, 0, 0, 0, 0, 0] := ⟨by kernel_rfl, by kernel_rfl, _, Try.underlying104⟩
instance : TEl Try.prog 104 12 96 (.agg #[.int .i64 0, .int .i64 0, .int .i64 0, .int .i64 0, .int .i64 0, .int .i64 0, .int .i64 0, .int .i64 0, .int .i64 0, .int .i64 0, .int .i64 0, .int .i64 0]) := ⟨by kernel_rfl, rfl, by decide⟩
instance : TZero Try.prog 104 [.int .i64 0, .int .i64 0, .int .i64 0, .int .i64 0, .int .i64 0, .int .i64 0, .int .i64 0, .int .i64 0, .int .i64 0, .int .i64 0, .int .i64 0, .int .i64 0] := ⟨.agg #[.int .i64 0, .int .i64 0, .int .i64 0, .int .i64 0, .int .i64 0, .int .i64 0, .int .i64 0, .int .i64 0, .int .i64 0, .int .i64 0, .int .i64 0, .int .i64 0], by kernel_rfl, rfl⟩
instance : TRow Try.prog 105 4 := ⟨⟨_, Try.underlying105, rfl⟩, by kernel_rfl⟩
instance : TFld Try.prog 105 0 0 := ⟨_, _, 0, Try.underlying105, rfl, rfl, by kernel_rfl⟩
instance : TFld Try.prog 105 1 1 := ⟨_, _, 0, Try.underlying105, rfl, rfl, by kernel_rfl⟩
instance : TFld Try.prog 105 2 2 := ⟨_, _, 0, Try.underlying105, rfl, rfl, by kernel_rfl⟩
instance : TFld Try.prog 105 3 3 := ⟨_, _, 0, Try.underlying105, rfl, rfl, by kernel_rfl⟩
instance : TEq Try.prog 105 [0, 0, 0, 0] := ⟨by kernel_rfl, by kernel_rfl, _, Try.underlying105⟩
instance : TEl Try.prog 105 4 32 (.agg #[.int .i64 0, .int .i64 0, .int .i64 0, .int .i64 0]) := ⟨by kernel_rfl, rfl, by decide⟩
instance : TZero Try.prog 105 [.int .i64 0, .int .i64 0, .int .i64 0, .int .i64 0] := ⟨.agg #[.int .i64 0, .int .i64 0, .int .i64 0, .int .i64 0], by kernel_rfl, rfl⟩
instance : TRow Try.prog 106 60 := ⟨⟨_, Try.underlying106, rfl⟩, by kernel_rfl⟩
instance : TFld Try.prog 106 0 0 := ⟨_, _, 0, Try.underlying106, rfl, rfl, by kernel_rfl⟩
instance : TFld Try.prog 106 1 1 := ⟨_, _, 0, Try.underlying106, rfl, rfl, by kernel_rfl⟩
instance : TFld Try.prog 106 2 2 := ⟨_, _, 0, Try.underlying106, rfl, rfl, by kernel_rfl⟩
instance : TFld Try.prog 106 3 3 := ⟨_, _, 0, Try.underlying106, rfl, rfl, by kernel_rfl⟩
instance : TFld Try.prog 106 4 4 := ⟨_, _, 0, Try.underlying106, rfl, rfl, by kernel_rfl⟩
instance : TFld Try.prog 106 5 5 := ⟨_, _, 0, Try.underlying106, rfl, rfl, by kernel_rfl⟩
instance : TFld Try.prog 106 6 6 := ⟨_, _, 0, Try.underlying106, rfl, rfl, by kernel_rfl⟩
instance : TFld Try.prog 106 7 7 := ⟨_, _, 0, Try.underlying106, rfl, rfl, by kernel_rfl⟩
instance : TFld Try.prog 106 8 8 := ⟨_, _, 0, Try.underlying106, rfl, rfl, by kernel_rfl⟩
instance : TFld Try.prog 106 9 9 := ⟨_, _, 0, Try.underlying106, rfl, rfl, by kernel_rfl⟩
instance : TFld Try.prog 106 10 10 := ⟨_, _, 0, Try.underlying106, rfl, rfl, by kernel_rfl⟩
instance : TFld Try.prog 106 11 11 := ⟨_, _, 1, Try.underlying106, rfl, rfl, by kernel_rfl⟩
instance : TFld Try.prog 106 12 13 := ⟨_, _, 1, Try.underlying106, rfl, rfl, by kernel_rfl⟩
instance : TFld Try.prog 106 13 15 := ⟨_, _, 1, Try.underlying106, rfl, rfl, by kernel_rfl⟩
instance : TFld Try.prog 106 14 17 := ⟨_, _, 1, Try.underlying106, rfl, rfl, by kernel_rfl⟩
instance : TFld Try.prog 106 15 19 := ⟨_, _, 1, Try.underlying106, rfl, rfl, by kernel_rfl⟩
instance : TFld Try.prog 106 16 21 := ⟨_, _, 1, Try.underlying106, rfl, rfl, by kernel_rfl⟩
instance : TFld Try.prog 106 17 23 := ⟨_, _, 1, Try.underlying106, rfl, rfl, by kernel_rfl⟩
instance : TFld Try.prog 106 18 25 := ⟨_, _, 0, Try.underlying106, rfl, rfl, by kernel_rfl⟩
instance : TFld Try.prog 106 19 26 := ⟨_, _, 11, Try.underlying106, rfl, rfl, by kernel_rfl⟩
instance : TFld Try.prog 106 20 38 := ⟨_, _, 11, Try.underlying106, rfl, rfl, by kernel_rfl⟩
instance : TFld Try.prog 106 21 50 := ⟨_, _, 3, Try.underlying106, rfl, rfl, by kernel_rfl⟩
instance : TFld Try.prog 106 22 54 := ⟨_, _, 3, Try.underlying106, rfl, rfl, by kernel_rfl⟩
instance : TFld Try.prog 106 23 58 := ⟨_, _, 0, Try.underlying106, rfl, rfl, by kernel_rfl⟩
instance : TFld Try.prog 106 24 59 := ⟨_, _, 0, Try.underlying106, rfl, rfl, by kernel_rfl⟩
instance : TEq Try.prog 106 [0, 0, 0, 0, 0, 0, 1, 1, 0, 0, 0, 0, 0, 0, 0, 0, 0, 0, 0, 0, 0, 0, 0, 0, 0, 0, 0, 0, 0, 0, 0, 0, 0, 0, 0, 0, 0, 0, 0, 0, 0, 0, 0, 0, 0, 0, 0, 0, 0, 0, 0, 0, 0, 0, 0, 0, 0, 0, 0, 0] := ⟨by kernel_rfl, by kernel_rfl, _, Try.underlying106⟩
instance : TEl Try.prog 106 60 472 (.agg #[.int .i64 0, .int .i64 0, .int .i64 0, .int .i64 0, .int .i64 0, .int .i64 0, .bool false, .bool false, .int .i64 0, .int .i64 0, .int .i64 0, .int .i64 0, .int .i64 0, .int .i64 0, .int .i64 0, .int .i64 0, .int .i64 0, .int .i64 0, .int .i64 0, .int .i64 0, .int .i64 0, .int .i64 0, .int .i64 0, .int .i64 0, .int .i64 0, .int .i64 0, .int .i64 0, .int .i64 0, .int .i64 0, .int .i64 0, .int .i64 0, .int .i64 0, .int .i64 0, .int .i64 0, .int .i64 0, .int .i64 0, .int .i64 0, .int .i64 0, .int .i64 0, .int .i64 0, .int .i64 0, .int .i64 0, .int .i64 0, .int .i64 0, .int .i64 0, .int .i64 0, .int .i64 0, .int .i64 0, .int .i64 0, .int .i64 0, .int .i64 0, .int .i64 0, .int .i64 0, .int .i64 0, .int .i64 0, .int .i64 0, .int .i64 0, .int .i64 0, .int .i64 0, .int .i64 0]) := ⟨by kernel_rfl, rfl, by decide⟩
instance : TZero Try.prog 106 [.int .i64 0, .int .i64 0, .int .i64 0, .int .i64 0, .int .i64 0, .int .i64 0, .bool false, .bool false, .int .i64 0, .int .i64 0, .int .i64 0, .int .i64 0, .int .i64 0, .int .i64 0, .int .i64 0, .int .i64 0, .int .i64 0, .int .i64 0, .int .i64 0, .int .i64 0, .int .i64 0, .int .i64 0, .int .i64 0, .int .i64 0, .int .i64 0, .int .i64 0, .int .i64 0, .int .i64 0, .int .i64 0, .int .i64 0, .int .i64 0, .int .i64 0, .int .i64 0, .int .i64 0, .int .i64 0, .int .i64 0, .int .i64 0, .int .i64 0, .int .i64 0, .int .i64 0, .int .i64 0, .int .i64 0, .int .i64 0, .int .i64 0, .int .i64 0, .int .i64 0, .int .i64 0, .int .i64 0, .int .i64 0, .int .i64 0, .int .i64 0, .int .i64 0, .int .i64 0, .int .i64 0, .int .i64 0, .int .i64 0, .int .i64 0, .int .i64 0, .int .i64 0, .int .i64 0] := ⟨.agg #[.int .i64 0, .int .i64 0, .int .i64 0, .int .i64 0, .int .i64 0, .int .i64 0, .bool false, .bool false, .int .i64 0, .int .i64 0, .int .i64 0, .int .i64 0, .int .i64 0, .int .i64 0, .int .i64 0, .int .i64 0, .int .i64 0, .int .i64 0, .int .i64 0, .int .i64 0, .int .i64 0, .int .i64 0, .int .i64 0, .int .i64 0, .int .i64 0, .int .i64 0, .int .i64 0, .int .i64 0, .int .i64 0, .int .i64 0, .int .i64 0, .int .i64 0, .int .i64 0, .int .i64 0, .int .i64 0, .int .i64 0, .int .i64 0, .int .i64 0, .int .i64 0, .int .i64 0, .int .i64 0, .int .i64 0, .int .i64 0, .int .i64 0, .int .i64 0, .int .i64 0, .int .i64 0, .int .i64 0, .int .i64 0, .int .i64 0, .int .i64 0, .int .i64 0, .int .i64 0, .int .i64 0, .int .i64 0, .int .i64 0, .int .i64 0, .int .i64 0, .int .i64 0, .int .i64 0], by kernel_rfl, rfl⟩
instance : TRow Try.prog 107 60 := ⟨⟨_, Try.underlying107, rfl⟩, by kernel_rfl⟩
instance : TFld Try.prog 107 0 0 := ⟨_, _, 0, Try.underlying107, rfl, rfl, by kernel_rfl⟩
instance : TFld Try.prog 107 1 1 := ⟨_, _, 0, Try.underlying107, rfl, rfl, by kernel_rfl⟩
instance : TFld Try.prog 107 2 2 := ⟨_, _, 0, Try.underlying107, rfl, rfl, by kernel_rfl⟩
instance : TFld Try.prog 107 3 3 := ⟨_, _, 0, Try.underlying107, rfl, rfl, by kernel_rfl⟩
instance : TFld Try.prog 107 4 4 := ⟨_, _, 0, Try.underlying107, rfl, rfl, by kernel_rfl⟩
instance : TFld Try.prog 107 5 5 := ⟨_, _, 0, Try.underlying107, rfl, rfl, by kernel_rfl⟩
instance : TFld Try.prog 107 6 6 := ⟨_, _, 0, Try.underlying107, rfl, rfl, by kernel_rfl⟩
instance : TFld Try.prog 107 7 7 := ⟨_, _, 0, Try.underlying107, rfl, rfl, by kernel_rfl⟩
instance : TFld Try.prog 107 8 8 := ⟨_, _, 0, Try.underlying107, rfl, rfl, by kernel_rfl⟩
instance : TFld Try.prog 107 9 9 := ⟨_, _, 0, Try.underlying107, rfl, rfl, by kernel_rfl⟩
instance : TFld Try.prog 107 10 10 := ⟨_, _, 0, Try.underlying107, rfl, rfl, by kernel_rfl⟩
instance : TFld Try.prog 107 11 11 := ⟨_, _, 1, Try.underlying107, rfl, rfl, by kernel_rfl⟩
instance : TFld Try.prog 107 12 13 := ⟨_, _, 1, Try.underlying107, rfl, rfl, by kernel_rfl⟩
instance : TFld Try.prog 107 13 15 := ⟨_, _, 1, Try.underlying107, rfl, rfl, by kernel_rfl⟩
instance : TFld Try.prog 107 14 17 := ⟨_, _, 1, Try.underlying107, rfl, rfl, by kernel_rfl⟩
instance : TFld Try.prog 107 15 19 := ⟨_, _, 1, Try.underlying107, rfl, rfl, by kernel_rfl⟩
instance : TFld Try.prog 107 16 21 := ⟨_, _, 1, Try.underlying107, rfl, rfl, by kernel_rfl⟩
instance : TFld Try.prog 107 17 23 := ⟨_, _, 1, Try.underlying107, rfl, rfl, by kernel_rfl⟩
instance : TFld Try.prog 107 18 25 := ⟨_, _, 0, Try.underlying107, rfl, rfl, by kernel_rfl⟩
instance : TFld Try.prog 107 19 26 := ⟨_, _, 11, Try.underlying107, rfl, rfl, by kernel_rfl⟩
instance : TFld Try.prog 107 20 38 := ⟨_, _, 11, Try.underlying107, rfl, rfl, by kernel_rfl⟩
instance : TFld Try.prog 107 21 50 := ⟨_, _, 3, Try.underlying107, rfl, rfl, by kernel_rfl⟩
instance : TFld Try.prog 107 22 54 := ⟨_, _, 3, Try.underlying107, rfl, rfl, by kernel_rfl⟩
instance : TFld Try.prog 107 23 58 := ⟨_, _, 0, Try.underlying107, rfl, rfl, by kernel_rfl⟩
instance : TFld Try.prog 107 24 59 := ⟨_, _, 0, Try.underlying107, rfl, rfl, by kernel_rfl⟩
instance : TEq Try.prog 107 [0, 0, 0, 0, 0, 0, 1, 1, 0, 0, 0, 0, 0, 0, 0, 0, 0, 0, 0, 0, 0, 0, 0, 0, 0, 0, 0, 0, 0, 0, 0, 0, 0, 0, 0, 0, 0, 0, 0, 0, 0, 0, 0, 0, 0, 0, 0, 0, 0, 0, 0, 0, 0, 0, 0, 0, 0, 0, 0, 0] := ⟨by kernel_rfl, by kernel_rfl, _, Try.underlying107⟩
instance : TEl Try.prog 107 60 472 (.agg #[.int .i64 0, .int .i64 0, .int .i64 0, .int .i64 0, .int .i64 0, .int .i64 0, .bool false, .bool false, .int .i64 0, .int .i64 0, .int .i64 0, .int .i64 0, .int .i64 0, .int .i64 0, .int .i64 0, .int .i64 0, .int .i64 0, .int .i64 0, .int .i64 0, .int .i64 0, .int .i64 0, .int .i64 0, .int .i64 0, .int .i64 0, .int .i64 0, .int .i64 0, .int .i64 0, .int .i64 0, .int .i64 0, .int .i64 0, .int .i64 0, .int .i64 0, .int .i64 0, .int .i64 0, .int .i64 0, .int .i64 0, .int .i64 0, .int .i64 0, .int .i64 0, .int .i64 0, .int .i64 0, .int .i64 0, .int .i64 0, .int .i64 0, .int .i64 0, .int .i64 0, .int .i64 0, .int .i64 0, .int .i64 0, .int .i64 0, .int .i64 0, .int .i64 0, .int .i64 0, .int .i64 0, .int .i64 0, .int .i64 0, .int .i64 0, .int .i64 0, .int .i64 0, .int .i64 0]) := ⟨by kernel_rfl, rfl, by decide⟩
instance : TZero Try.prog 107 [.int .i64 0, .int .i64 0, .int .i64 0, .int .i64 0, .int .i64 0, .int .i64 0, .bool false, .bool false, .int .i64 0, .int .i64 0, .int .i64 0, .int .i64 0, .int .i64 0, .int .i64 0, .int .i64 0, .int .i64 0, .int .i64 0, .int .i64 0, .int .i64 0, .int .i64 0, .int .i64 0, .int .i64 0, .int .i64 0, .int .i64 0, .int .i64 0, .int .i64 0, .int .i64 0, .int .i64 0, .int .i64 0, .int .i64 0, .int .i64 0, .int .i64 0, .int .i64 0, .int .i64 0, .int .i64 0, .int .i64 0, .int .i64 0, .int .i64 0, .int .i64 0, .int .i64 0, .int .i64 0, .int .i64 0, .int .i64 0, .int .i64 0, .int .i64 0, .int .i64 0, .int .i64 0, .int .i64 0, .int .i64 0, .int .i64 0, .int .i64 0, .int .i64 0, .int .i64 0, .int .i64 0, .int .i64 0, .int .i64 0, .int .i64 0, .int .i64 0, .int .i64 0, .int .i64 0] := ⟨.agg #[.int .i64 0, .int .i64 0, .int .i64 0, .int .i64 0, .int .i64 0, .int .i64 0, .bool false, .bool false, .int .i64 0, .int .i64 0, .int .i64 0, .int .i64 0, .int .i64 0, .int .i64 0, .int .i64 0, .int .i64 0, .int .i64 0, .int .i64 0, .int .i64 0, .int .i64 0, .int .i64 0, .int .i64 0, .int .i64 0, .int .i64 0, .int .i64 0, .int .i64 0, .int .i64 0, .int .i64 0, .int .i64 0, .int .i64 0, .int .i64 0, .int .i64 0, .int .i64 0, .int .i64 0, .int .i64 0, .int .i64 0, .int .i64 0, .int .i64 0, .int .i64 0, .int .i64 0, .int .i64 0, .int .i64 0, .int .i64 0, .int .i64 0, .int .i64 0, .int .i64 0, .int .i64 0, .int .i64 0, .int .i64 0, .int .i64 0, .int .i64 0, .int .i64 0, .int .i64 0, .int .i64 0, .int .i64 0, .int .i64 0, .int .i64 0, .int .i64 0, .int .i64 0, .int .i64 0], by kernel_rfl, rfl⟩
instance : TOne Try.prog 108 := ⟨⟨_, Try.underlying108, rfl⟩, by kernel_rfl⟩
instance : TSl Try.prog 108 145 3 := ⟨Try.underlying108, by kernel_rfl⟩
instance : TEl Try.prog 108 1 24 (.slice none 0 0) := ⟨by kernel_rfl, rfl, by decide⟩
instance : TZero Try.prog 108 [.slice none 0 0] := ⟨.slice none 0 0, by kernel_rfl, rfl⟩
instance : TRow Try.prog 109 1 := ⟨⟨_, Try.underlying109, rfl⟩, by kernel_rfl⟩
instance : TFld Try.prog 109 0 0 := ⟨_, _, 0, Try.underlying109, rfl, rfl, by kernel_rfl⟩
instance : TEl Try.prog 109 1 24 (.agg #[.slice none 0 0]) := ⟨by kernel_rfl, rfl, by decide⟩
instance : TZero Try.prog 109 [.slice none 0 0] := ⟨.agg #[.slice none 0 0], by kernel_rfl, rfl⟩
instance : TRow Try.prog 110 1 := ⟨⟨_, Try.underlying110, rfl⟩, by kernel_rfl⟩
instance : TFld Try.prog 110 0 0 := ⟨_, _, 0, Try.underlying110, rfl, rfl, by kernel_rfl⟩
instance : TEl Try.prog 110 1 24 (.agg #[.slice none 0 0]) := ⟨by kernel_rfl, rfl, by decide⟩
instance : TZero Try.prog 110 [.slice none 0 0] := ⟨.agg #[.slice none 0 0], by kernel_rfl, rfl⟩
instance : TRow Try.prog 111 64 := ⟨⟨_, Try.underlying111, rfl⟩, by kernel_rfl⟩
instance : TFld Try.prog 111 0 0 := ⟨_, _, 0, Try.underlying111, rfl, rfl, by kernel_rfl⟩
instance : TFld Try.prog 111 1 1 := ⟨_, _, 0, Try.underlying111, rfl, rfl, by kernel_rfl⟩
instance : TFld Try.prog 111 2 2 := ⟨_, _, 59, Try.underlying111, rfl, rfl, by kernel_rfl⟩
instance : TFld Try.prog 111 3 62 := ⟨_, _, 0, Try.underlying111, rfl, rfl, by kernel_rfl⟩
instance : TFld Try.prog 111 4 63 := ⟨_, _, 0, Try.underlying111, rfl, rfl, by kernel_rfl⟩
instance : TEl Try.prog 111 64 536 (.agg #[.int .i64 0, .slice none 0 0, .int .i64 0, .int .i64 0, .int .i64 0, .int .i64 0, .int .i64 0, .int .i64 0, .bool false, .bool false, .int .i64 0, .int .i64 0, .int .i64 0, .int .i64 0, .int .i64 0, .int .i64 0, .int .i64 0, .int .i64 0, .int .i64 0, .int .i64 0, .int .i64 0, .int .i64 0, .int .i64 0, .int .i64 0, .int .i64 0, .int .i64 0, .int .i64 0, .int .i64 0, .int .i64 0, .int .i64 0, .int .i64 0, .int .i64 0, .int .i64 0, .int .i64 0, .int .i64 0, .int .i64 0, .int .i64 0, .int .i64 0, .int .i64 0, .int .i64 0, .int .i64 0, .int .i64 0, .int .i64 0, .int .i64 0, .int .i64 0, .int .i64 0, .int .i64 0, .int .i64 0, .int .i64 0, .int .i64 0, .int .i64 0, .int .i64 0, .int .i64 0, .int .i64 0, .int .i64 0, .int .i64 0, .int .i64 0, .int .i64 0, .int .i64 0, .int .i64 0, .int .i64 0, .int .i64 0, .bool false, .slice none 0 0]) := ⟨by kernel_rfl, rfl, by decide⟩
instance : TZero Try.prog 111 [.int .i64 0, .slice none 0 0, .int .i64 0, .int .i64 0, .int .i64 0, .int .i64 0, .int .i64 0, .int .i64 0, .bool false, .bool false, .int .i64 0, .int .i64 0, .int .i64 0, .int .i64 0, .int .i64 0, .int .i64 0, .int .i64 0, .int .i64 0, .int .i64 0, .int .i64 0, .int .i64 0, .int .i64 0, .int .i64 0, .int .i64 0, .int .i64 0, .int .i64 0, .int .i64 0, .int .i64 0, .int .i64 0, .int .i64 0, .int .i64 0, .int .i64 0, .int .i64 0, .int .i64 0, .int .i64 0, .int .i64 0, .int .i64 0, .int .i64 0, .int .i64 0, .int .i64 0, .int .i64 0, .int .i64 0, .int .i64 0, .int .i64 0, .int .i64 0, .int .i64 0, .int .i64 0, .int .i64 0, .int .i64 0, .int .i64 0, .int .i64 0, .int .i64 0, .int .i64 0, .int .i64 0, .int .i64 0, .int .i64 0, .int .i64 0, .int .i64 0, .int .i64 0, .int .i64 0, .int .i64 0, .int .i64 0, .bool false, .slice none 0 0] := ⟨.agg #[.int .i64 0, .slice none 0 0, .int .i64 0, .int .i64 0, .int .i64 0, .int .i64 0, .int .i64 0, .int .i64 0, .bool false, .bool false, .int .i64 0, .int .i64 0, .int .i64 0, .int .i64 0, .int .i64 0, .int .i64 0, .int .i64 0, .int .i64 0, .int .i64 0, .int .i64 0, .int .i64 0, .int .i64 0, .int .i64 0, .int .i64 0, .int .i64 0, .int .i64 0, .int .i64 0, .int .i64 0, .int .i64 0, .int .i64 0, .int .i64 0, .int .i64 0, .int .i64 0, .int .i64 0, .int .i64 0, .int .i64 0, .int .i64 0, .int .i64 0, .int .i64 0, .int .i64 0, .int .i64 0, .int .i64 0, .int .i64 0, .int .i64 0, .int .i64 0, .int .i64 0, .int .i64 0, .int .i64 0, .int .i64 0, .int .i64 0, .int .i64 0, .int .i64 0, .int .i64 0, .int .i64 0, .int .i64 0, .int .i64 0, .int .i64 0, .int .i64 0, .int .i64 0, .int .i64 0, .int .i64 0, .int .i64 0, .bool false, .slice none 0 0], by kernel_rfl, rfl⟩
instance : TRow Try.prog 112 64 := ⟨⟨_, Try.underlying112, rfl⟩, by kernel_rfl⟩
instance : TFld Try.prog 112 0 0 := ⟨_, _, 0, Try.underlying112, rfl, rfl, by kernel_rfl⟩
instance : TFld Try.prog 112 1 1 := ⟨_, _, 0, Try.underlying112, rfl, rfl, by kernel_rfl⟩
instance : TFld Try.prog 112 2 2 := ⟨_, _, 59, Try.underlying112, rfl, rfl, by kernel_rfl⟩
instance : TFld Try.prog 112 3 62 := ⟨_, _, 0, Try.underlying112, rfl, rfl, by kernel_rfl⟩
instance : TFld Try.prog 112 4 63 := ⟨_, _, 0, Try.underlying112, rfl, rfl, by kernel_rfl⟩
instance : TEl Try.prog 112 64 536 (.agg #[.int .i64 0, .slice none 0 0, .int .i64 0, .int .i64 0, .int .i64 0, .int .i64 0, .int .i64 0, .int .i64 0, .bool false, .bool false, .int .i64 0, .int .i64 0, .int .i64 0, .int .i64 0, .int .i64 0, .int .i64 0, .int .i64 0, .int .i64 0, .int .i64 0, .int .i64 0, .int .i64 0, .int .i64 0, .int .i64 0, .int .i64 0, .int .i64 0, .int .i64 0, .int .i64 0, .int .i64 0, .int .i64 0, .int .i64 0, .int .i64 0, .int .i64 0, .int .i64 0, .int .i64 0, .int .i64 0, .int .i64 0, .int .i64 0, .int .i64 0, .int .i64 0, .int .i64 0, .int .i64 0, .int .i64 0, .int .i64 0, .int .i64 0, .int .i64 0, .int .i64 0, .int .i64 0, .int .i64 0, .int .i64 0, .int .i64 0, .int .i64 0, .int .i64 0, .int .i64 0, .int .i64 0, .int .i64 0, .int .i64 0, .int .i64 0, .int .i64 0, .int .i64 0, .int .i64 0, .int .i64 0, .int .i64 0, .bool false, .slice none 0 0]) := ⟨by kernel_rfl, rfl, by decide⟩
instance : TZero Try.prog 112 [.int .i64 0, .slice none 0 0, .int .i64 0, .int .i64 0, .int .i64 0, .int .i64 0, .int .i64 0, .int .i64 0, .bool false, .bool false, .int .i64 0, .int .i64 0, .int .i64 0, .int .i64 0, .int .i64 0, .int .i64 0, .int .i64 0, .int .i64 0, .int .i64 0, .int .i64 0, .int .i64 0, .int .i64 0, .int .i64 0, .int .i64 0, .int .i64 0, .int .i64 0, .int .i64 0, .int .i64 0, .int .i64 0, .int .i64 0, .int .i64 0, .int .i64 0, .int .i64 0, .int .i64 0, .int .i64 0, .int .i64 0, .int .i64 0, .int .i64 0, .int .i64 0, .int .i64 0, .int .i64 0, .int .i64 0, .int .i64 0, .int .i64 0, .int .i64 0, .int .i64 0, .int .i64 0, .int .i64 0, .int .i64 0, .int .i64 0, .int .i64 0, .int .i64 0, .int .i64 0, .int .i64 0, .int .i64 0, .int .i64 0, .int .i64 0, .int .i64 0, .int .i64 0, .int .i64 0, .int .i64 0, .int .i64 0, .bool false, .slice none 0 0] := ⟨.agg #[.int .i64 0, .slice none 0 0, .int .i64 0, .int .i64 0, .int .i64 0, .int .i64 0, .int .i64 0, .int .i64 0, .bool false, .bool false, .int .i64 0, .int .i64 0, .int .i64 0, .int .i64 0, .int .i64 0, .int .i64 0, .int .i64 0, .int .i64 0, .int .i64 0, .int .i64 0, .int .i64 0, .int .i64 0, .int .i64 0, .int .i64 0, .int .i64 0, .int .i64 0, .int .i64 0, .int .i64 0, .int .i64 0, .int .i64 0, .int .i64 0, .int .i64 0, .int .i64 0, .int .i64 0, .int .i64 0, .int .i64 0, .int .i64 0, .int .i64 0, .int .i64 0, .int .i64 0, .int .i64 0, .int .i64 0, .int .i64 0, .int .i64 0, .int .i64 0, .int .i64 0, .int .i64 0, .int .i64 0, .int .i64 0, .int .i64 0, .int .i64 0, .int .i64 0, .int .i64 0, .int .i64 0, .int .i64 0, .int .i64 0, .int .i64 0, .int .i64 0, .int .i64 0, .int .i64 0, .int .i64 0, .int .i64 0, .bool false, .slice none 0 0], by kernel_rfl, rfl⟩
instance : TRow Try.prog 113 2 := ⟨⟨_, Try.underlying113, rfl⟩, by kernel_rfl⟩
instance : TFld Try.prog 113 0 0 := ⟨_, _, 0, Try.underlying113, rfl, rfl, by kernel_rfl⟩
instance : TFld Try.prog 113 1 1 := ⟨_, _, 0, Try.underlying113, rfl, rfl, by kernel_rfl⟩
instance : TEq Try.prog 113 [0, 0] := ⟨by kernel_rfl, by kernel_rfl, _, Try.underlying113⟩
instance : TEl Try.prog 113 2 16 (.agg #[.int .i64 0, .int .i64 0]) := ⟨by kernel_rfl, rfl, by decide⟩
instance : TZero Try.prog 113 [.int .i64 0, .int .i64 0] := ⟨.agg #[.int .i64 0, .int .i64 0], by kernel_rfl, rfl⟩
instance : TRow Try.prog 114 4 := ⟨⟨_, Try.underlying114, rfl⟩, by kernel_rfl⟩
instance : TFld Try.prog 114 0 0 := ⟨_, _, 0, Try.underlying114, rfl, rfl, by kernel_rfl⟩
instance : TFld Try.prog 114 1 1 := ⟨_, _, 0, Try.underlying114, rfl, rfl, by kernel_rfl⟩
instance : TFld Try.prog 114 2 2 := ⟨_, _, 0, Try.underlying114, rfl, rfl, by kernel_rfl⟩
instance : TFld Try.prog 114 3 3 := ⟨_, _, 0, Try.underlying114, rfl, rfl, by kernel_rfl⟩
instance : TEl Try.prog 114 4 48 (.agg #[.int .i64 0, .int .i64 0, .int .i64 0, .slice none 0 0]) := ⟨by kernel_rfl, rfl, by decide⟩
instance : TZero Try.prog 114 [.int .i64 0, .int .i64 0, .int .i64 0, .slice none 0 0] := ⟨.agg #[.int .i64 0, .int .i64 0, .int .i64 0, .slice none 0 0], by kernel_rfl, rfl⟩
instance : TRow Try.prog 115 4 := ⟨⟨_, Try.underlying115, rfl⟩, by kernel_rfl⟩
instance : TFld Try.prog 115 0 0 := ⟨_, _, 0, Try.underlying115, rfl, rfl, by kernel_rfl⟩
instance : TFld Try.prog 115 1 1 := ⟨_, _, 0, Try.underlying115, rfl, rfl, by kernel_rfl⟩
instance : TFld Try.prog 115 2 2 := ⟨_, _, 0, Try.underlying115, rfl, rfl, by kernel_rfl⟩
instance : TFld Try.prog 115 3 3 := ⟨_, _, 0, Try.underlying115, rfl, rfl, by kernel_rfl⟩
instance : TEl Try.prog 115 4 48 (.agg #[.int .i64 0, .int .i64 0, .int .i64 0, .slice none 0 0]) := ⟨by kernel_rfl, rfl, by decide⟩
instance : TZero Try.prog 115 [.int .i64 0, .int .i64 0, .int .i64 0, .slice none 0 0] := ⟨.agg #[.int .i64 0, .int .i64 0, .int .i64 0, .slice none 0 0], by kernel_rfl, rfl⟩
instance : TRow Try.prog 116 10 := ⟨⟨_, Try.underlying116, rfl⟩, by kernel_rfl⟩
instance : TFld Try.prog 116 0 0 := ⟨_, _, 0, Try.underlying116, rfl, rfl, by kernel_rfl⟩
instance : TFld Try.prog 116 1 1 := ⟨_, _, 1, Try.underlying116, rfl, rfl, by kernel_rfl⟩
instance : TFld Try.prog 116 2 3 := ⟨_, _, 1, Try.underlying116, rfl, rfl, by kernel_rfl⟩
instance : TFld Try.prog 116 3 5 := ⟨_, _, 0, Try.underlying116, rfl, rfl, by kernel_rfl⟩
instance : TFld Try.prog 116 4 6 := ⟨_, _, 3, Try.underlying116, rfl, rfl, by kernel_rfl⟩
instance : TEl Try.prog 116 10 96 (.agg #[.int .i64 0, .int .i64 0, .int .i64 0, .int .i64 0, .int .i64 0, .bool false, .int .i64 0, .int .i64 0, .int .i64 0, .slice none 0 0]) := ⟨by kernel_rfl, rfl, by decide⟩
instance : TZero Try.prog 116 [.int .i64 0, .int .i64 0, .int .i64 0, .int .i64 0, .int .i64 0, .bool false, .int .i64 0, .int .i64 0, .int .i64 0, .slice none 0 0] := ⟨.agg #[.int .i64 0, .int .i64 0, .int .i64 0, .int .i64 0, .int .i64 0, .bool false, .int .i64 0, .int .i64 0, .int .i64 0, .slice none 0 0], by kernel_rfl, rfl⟩
instance : TRow Try.prog 117 10 := ⟨⟨_, Try.underlying117, rfl⟩, by kernel_rfl⟩
instance : TFld Try.prog 117 0 0 := ⟨_, _, 0, Try.underlying117, rfl, rfl, by kernel_rfl⟩
instance : TFld Try.prog 117 1 1 := ⟨_, _, 1, Try.underlying117, rfl, rfl, by kernel_rfl⟩
instance : TFld Try.prog 117 2 3 := ⟨_, _, 1, Try.underlying117, rfl, rfl, by kernel_rfl⟩
instance : TFld Try.prog 117 3 5 := ⟨_, _, 0, Try.underlying117, rfl, rfl, by kernel_rfl⟩
instance : TFld Try.prog 117 4 6 := ⟨_, _, 3, Try.underlying117, rfl, rfl, by kernel_rfl⟩
instance : TEl Try.prog 117 10 96 (.agg #[.int .i64 0, .int .i64 0, .int .i64 0, .int .i64 0, .int .i64 0, .bool false, .int .i64 0, .int .i64 0, .int .i64 0, .slice none 0 0]) := ⟨by kernel_rfl, rfl, by decide⟩
instance : TZero Try.prog 117 [.int .i64 0, .int .i64 0, .int .i64 0, .int .i64 0, .int .i64 0, .bool false, .int .i64 0, .int .i64 0, .int .i64 0, .slice none 0 0] := ⟨.agg #[.int .i64 0, .int .i64 0, .int .i64 0, .int .i64 0, .int .i64 0, .bool false, .int .i64 0, .int .i64 0, .int .i64 0, .slice none 0 0], by kernel_rfl, rfl⟩
instance : TRow Try.prog 121 6 := ⟨⟨_, Try.underlying121, rfl⟩, by kernel_rfl⟩
instance : TFld Try.prog 121 0 0 := ⟨_, _, 0, Try.underlying121, rfl, rfl, by kernel_rfl⟩
instance : TFld Try.prog 121 1 1 := ⟨_, _, 1, Try.underlying121, rfl, rfl, by kernel_rfl⟩
instance : TFld Try.prog 121 2 3 := ⟨_, _, 1, Try.underlying121, rfl, rfl, by kernel_rfl⟩
instance : TFld Try.prog 121 3 5 := ⟨_, _, 0, Try.underlying121, rfl, rfl, by kernel_rfl⟩
instance : TEq Try.prog 121 [0, 0, 0, 0, 0, 1] := ⟨by kernel_rfl, by kernel_rfl, _, Try.underlying121⟩
instance : TEl Try.prog 121 6 48 (.agg #[.int .i64 0, .int .i64 0, .int .i64 0, .int .i64 0, .int .i64 0, .bool false]) := ⟨by kernel_rfl, rfl, by decide⟩
instance : TZero Try.prog 121 [.int .i64 0, .int .i64 0, .int .i64 0, .int .i64 0, .int .i64 0, .bool false] := ⟨.agg #[.int .i64 0, .int .i64 0, .int .i64 0, .int .i64 0, .int .i64 0, .bool false], by kernel_rfl, rfl⟩
instance : TRow Try.prog 122 6 := ⟨⟨_, Try.underlying122, rfl⟩, by kernel_rfl⟩
instance : TFld Try.prog 122 0 0 := ⟨_, _, 0, Try.underlying122, rfl, rfl, by kernel_rfl⟩
instance : TFld Try.prog 122 1 1 := ⟨_, _, 1, Try.underlying122, rfl, rfl, by kernel_rfl⟩
instance : TFld Try.prog 122 2 3 := ⟨_, _, 1, Try.underlying122, rfl, rfl, by kernel_rfl⟩
instance : TFld Try.prog 122 3 5 := ⟨_, _, 0, Try.underlying122, rfl, rfl, by kernel_rfl⟩
instance : TEq Try.prog 122 [0, 0, 0, 0, 0, 1] := ⟨by kernel_rfl, by kernel_rfl, _, Try.underlying122⟩
instance : TEl Try.prog 122 6 48 (.agg #[.int .i64 0, .int .i64 0, .int .i64 0, .int .i64 0, .int .i64 0, .bool false]) := ⟨by kernel_rfl, rfl, by decide⟩
instance : TZero Try.prog 122 [.int .i64 0, .int .i64 0, .int .i64 0, .int .i64 0, .int .i64 0, .bool false] := ⟨.agg #[.int .i64 0, .int .i64 0, .int .i64 0, .int .i64 0, .int .i64 0, .bool false], by kernel_rfl, rfl⟩
instance : TRow Try.prog 124 6 := ⟨⟨_, Try.underlying124, rfl⟩, by kernel_rfl⟩
instance : TFld Try.prog 124 0 0 := ⟨_, _, 0, Try.underlying124, rfl, rfl, by kernel_rfl⟩
instance : TFld Try.prog 124 1 1 := ⟨_, _, 1, Try.underlying124, rfl, rfl, by kernel_rfl⟩
instance : TFld Try.prog 124 2 3 := ⟨_, _, 1, Try.underlying124, rfl, rfl, by kernel_rfl⟩
instance : TFld Try.prog 124 3 5 := ⟨_, _, 0, Try.underlying124, rfl, rfl, by kernel_rfl⟩
instance : TEq Try.prog 124 [0, 0, 0, 0, 0, 1] := ⟨by kernel_rfl, by kernel_rfl, _, Try.underlying124⟩
instance : TEl Try.prog 124 6 48 (.agg #[.int .i64 0, .int .i64 0, .int .i64 0, .int .i64 0, .int .i64 0, .bool false]) := ⟨by kernel_rfl, rfl, by decide⟩
instance : TZero Try.prog 124 [.int .i64 0, .int .i64 0, .int .i64 0, .int .i64 0, .int .i64 0, .bool false] := ⟨.agg #[.int .i64 0, .int .i64 0, .int .i64 0, .int .i64 0, .int .i64 0, .bool false], by kernel_rfl, rfl⟩
instance : TRow Try.prog 125 6 := ⟨⟨_, Try.underlying125, rfl⟩, by kernel_rfl⟩
instance : TFld Try.prog 125 0 0 := ⟨_, _, 0, Try.underlying125, rfl, rfl, by kernel_rfl⟩
instance : TFld Try.prog 125 1 1 := ⟨_, _, 1, Try.underlying125, rfl, rfl, by kernel_rfl⟩
instance : TFld Try.prog 125 2 3 := ⟨_, _, 1, Try.underlying125, rfl, rfl, by kernel_rfl⟩
instance : TFld Try.prog 125 3 5 := ⟨_, _, 0, Try.underlying125, rfl, rfl, by kernel_rfl⟩
instance : TEq Try.prog 125 [0, 0, 0, 0, 0, 1] := ⟨by kernel_rfl, by kernel_rfl, _, Try.underlying125⟩
instance : TEl Try.prog 125 6 48 (.agg #[.int .i64 0, .int .i64 0, .int .i64 0, .int .i64 0, .int .i64 0, .bool false]) := ⟨by kernel_rfl, rfl, by decide⟩
instance : TZero Try.prog 125 [.int .i64 0, .int .i64 0, .int .i64 0, .int .i64 0, .int .i64 0, .bool false] := ⟨.agg #[.int .i64 0, .int .i64 0, .int .i64 0, .int .i64 0, .int .i64 0, .bool false], by kernel_rfl, rfl⟩
instance : TRow Try.prog 144 3 := ⟨⟨_, Try.underlying144, rfl⟩, by kernel_rfl⟩
instance : TFld Try.prog 144 0 0 := ⟨_, _, 0, Try.underlying144, rfl, rfl, by kernel_rfl⟩
instance : TFld Try.prog 144 1 1 := ⟨_, _, 0, Try.underlying144, rfl, rfl, by kernel_rfl⟩
instance : TFld Try.prog 144 2 2 := ⟨_, _, 0, Try.underlying144, rfl, rfl, by kernel_rfl⟩
instance : TEq Try.prog 144 [0, 0, 0] := ⟨by kernel_rfl, by kernel_rfl, _, Try.underlying144⟩
instance : TEl Try.prog 144 3 24 (.agg #[.int .i64 0, .int .i64 0, .int .i64 0]) := ⟨by kernel_rfl, rfl, by decide⟩
instance : TZero Try.prog 144 [.int .i64 0, .int .i64 0, .int .i64 0] := ⟨.agg #[.int .i64 0, .int .i64 0, .int .i64 0], by kernel_rfl, rfl⟩
instance : TRow Try.prog 145 3 := ⟨⟨_, Try.underlying145, rfl⟩, by kernel_rfl⟩
instance : TFld Try.prog 145 0 0 := ⟨_, _, 0, Try.underlying145, rfl, rfl, by kernel_rfl⟩
instance : TFld Try.prog 145 1 1 := ⟨_, _, 0, Try.underlying145, rfl, rfl, by kernel_rfl⟩
instance : TFld Try.prog 145 2 2 := ⟨_, _, 0, Try.underlying145, rfl, rfl, by kernel_rfl⟩
instance : TEq Try.prog 145 [0, 0, 0] := ⟨by kernel_rfl, by kernel_rfl, _, Try.underlying145⟩
instance : TEl Try.prog 145 3 24 (.agg #[.int .i64 0, .int .i64 0, .int .i64 0]) := ⟨by kernel_rfl, rfl, by decide⟩
instance : TZero Try.prog 145 [.int .i64 0, .int .i64 0, .int .i64 0] := ⟨.agg #[.int .i64 0, .int .i64 0, .int .i64 0], by kernel_rfl, rfl⟩
instance : TRow Try.prog 156 3 := ⟨⟨_, Try.underlying156, rfl⟩, by kernel_rfl⟩
instance : TFld Try.prog 156 0 0 := ⟨_, _, 0, Try.underlying156, rfl, rfl, by kernel_rfl⟩
instance : TFld Try.prog 156 1 1 := ⟨_, _, 0, Try.underlying156, rfl, rfl, by kernel_rfl⟩
instance : TFld Try.prog 156 2 2 := ⟨_, _, 0, Try.underlying156, rfl, rfl, by kernel_rfl⟩
instance : TEq Try.prog 156 [0, 0, 0] := ⟨by kernel_rfl, by kernel_rfl, _, Try.underlying156⟩
instance : TEl Try.prog 156 3 24 (.agg #[.int .i64 0, .int .i64 0, .int .i64 0]) := ⟨by kernel_rfl, rfl, by decide⟩
instance : TZero Try.prog 156 [.int .i64 0, .int .i64 0, .int .i64 0] := ⟨.agg #[.int .i64 0, .int .i64 0, .int .i64 0], by kernel_rfl, rfl⟩
instance : TRow Try.prog 159 4 := ⟨⟨_, Try.underlying159, rfl⟩, by kernel_rfl⟩
instance : TFld Try.prog 159 0 0 := ⟨_, _, 0, Try.underlying159, rfl, rfl, by kernel_rfl⟩
instance : TFld Try.prog 159 1 1 := ⟨_, _, 0, Try.underlying159, rfl, rfl, by kernel_rfl⟩
instance : TFld Try.prog 159 2 2 := ⟨_, _, 0, Try.underlying159, rfl, rfl, by kernel_rfl⟩
instance : TFld Try.prog 159 3 3 := ⟨_, _, 0, Try.underlying159, rfl, rfl, by kernel_rfl⟩
instance : TEl Try.prog 159 4 40 (.agg #[.pointer none, .pointer none, .pointer none, .string ⟨#[]⟩]) := ⟨by kernel_rfl, rfl, by decide⟩
instance : TZero Try.prog 159 [.pointer none, .pointer none, .pointer none, .string ⟨#[]⟩] := ⟨.agg #[.pointer none, .pointer none, .pointer none, .string ⟨#[]⟩], by kernel_rfl, rfl⟩
instance : TRow Try.prog 160 4 := ⟨⟨_, Try.underlying160, rfl⟩, by kernel_rfl⟩
instance : TFld Try.prog 160 0 0 := ⟨_, _, 0, Try.underlying160, rfl, rfl, by kernel_rfl⟩
instance : TFld Try.prog 160 1 1 := ⟨_, _, 0, Try.underlying160, rfl, rfl, by kernel_rfl⟩
instance : TFld Try.prog 160 2 2 := ⟨_, _, 0, Try.underlying160, rfl, rfl, by kernel_rfl⟩
instance : TFld Try.prog 160 3 3 := ⟨_, _, 0, Try.underlying160, rfl, rfl, by kernel_rfl⟩
instance : TEl Try.prog 160 4 40 (.agg #[.pointer none, .pointer none, .pointer none, .string ⟨#[]⟩]) := ⟨by kernel_rfl, rfl, by decide⟩
instance : TZero Try.prog 160 [.pointer none, .pointer none, .pointer none, .string ⟨#[]⟩] := ⟨.agg #[.pointer none, .pointer none, .pointer none, .string ⟨#[]⟩], by kernel_rfl, rfl⟩
instance : TOne Try.prog 165 := ⟨⟨_, Try.underlying165, rfl⟩, by kernel_rfl⟩
instance : TEl Try.prog 165 1 4 (.int .u32 0) := ⟨by kernel_rfl, rfl, by decide⟩
instance : TZero Try.prog 165 [.int .u32 0] := ⟨.int .u32 0, by kernel_rfl, rfl⟩
instance : TOne Try.prog 166 := ⟨⟨_, Try.underlying166, rfl⟩, by kernel_rfl⟩
instance : TEl Try.prog 166 1 1 (.int .u8 0) := ⟨by kernel_rfl, rfl, by decide⟩
instance : TZero Try.prog 166 [.int .u8 0] := ⟨.int .u8 0, by kernel_rfl, rfl⟩
instance : TOne Try.prog 167 := ⟨⟨_, Try.underlying167, rfl⟩, by kernel_rfl⟩
instance : TEl Try.prog 167 1 1 (.int .u8 0) := ⟨by kernel_rfl, rfl, by decide⟩
instance : TZero Try.prog 167 [.int .u8 0] := ⟨.int .u8 0, by kernel_rfl, rfl⟩
instance : TOne Try.prog 169 := ⟨⟨_, Try.underlying169, rfl⟩, by kernel_rfl⟩
instance : TPtr Try.prog 169 := ⟨⟨_, Try.underlying169⟩⟩
instance : TEl Try.prog 169 1 8 (.pointer none) := ⟨by kernel_rfl, rfl, by decide⟩
instance : TZero Try.prog 169 [.pointer none] := ⟨.pointer none, by kernel_rfl, rfl⟩
instance : TOne Try.prog 170 := ⟨⟨_, Try.underlying170, rfl⟩, by kernel_rfl⟩
instance : TEl Try.prog 170 1 4 (.int .i32 0) := ⟨by kernel_rfl, rfl, by decide⟩
instance : TZero Try.prog 170 [.int .i32 0] := ⟨.int .i32 0, by kernel_rfl, rfl⟩
instance : TOne Try.prog 171 := ⟨⟨_, Try.underlying171, rfl⟩, by kernel_rfl⟩
instance : TEl Try.prog 171 1 4 (.int .i32 0) := ⟨by kernel_rfl, rfl, by decide⟩
instance : TZero Try.prog 171 [.int .i32 0] := ⟨.int .i32 0, by kernel_rfl, rfl⟩
instance : TRow Try.prog 172 11 := ⟨⟨_, Try.underlying172, rfl⟩, by kernel_rfl⟩
instance : TFld Try.prog 172 0 0 := ⟨_, _, 0, Try.underlying172, rfl, rfl, by kernel_rfl⟩
instance : TFld Try.prog 172 1 1 := ⟨_, _, 0, Try.underlying172, rfl, rfl, by kernel_rfl⟩
instance : TFld Try.prog 172 2 2 := ⟨_, _, 0, Try.underlying172, rfl, rfl, by kernel_rfl⟩
instance : TFld Try.prog 172 3 3 := ⟨_, _, 0, Try.underlying172, rfl, rfl, by kernel_rfl⟩
instance : TFld Try.prog 172 4 4 := ⟨_, _, 0, Try.underlying172, rfl, rfl, by kernel_rfl⟩
instance : TFld Try.prog 172 5 5 := ⟨_, _, 0, Try.underlying172, rfl, rfl, by kernel_rfl⟩
instance : TFld Try.prog 172 6 6 := ⟨_, _, 0, Try.underlying172, rfl, rfl, by kernel_rfl⟩
instance : TFld Try.prog 172 7 7 := ⟨_, _, 0, Try.underlying172, rfl, rfl, by kernel_rfl⟩
instance : TFld Try.prog 172 8 8 := ⟨_, _, 0, Try.underlying172, rfl, rfl, by kernel_rfl⟩
instance : TFld Try.prog 172 9 9 := ⟨_, _, 0, Try.underlying172, rfl, rfl, by kernel_rfl⟩
instance : TFld Try.prog 172 10 10 := ⟨_, _, 0, Try.underlying172, rfl, rfl, by kernel_rfl⟩
instance : TRow Try.prog 173 11 := ⟨⟨_, Try.underlying173, rfl⟩, by kernel_rfl⟩
instance : TFld Try.prog 173 0 0 := ⟨_, _, 0, Try.underlying173, rfl, rfl, by kernel_rfl⟩
instance : TFld Try.prog 173 1 1 := ⟨_, _, 0, Try.underlying173, rfl, rfl, by kernel_rfl⟩
instance : TFld Try.prog 173 2 2 := ⟨_, _, 0, Try.underlying173, rfl, rfl, by kernel_rfl⟩
instance : TFld Try.prog 173 3 3 := ⟨_, _, 0, Try.underlying173, rfl, rfl, by kernel_rfl⟩
instance : TFld Try.prog 173 4 4 := ⟨_, _, 0, Try.underlying173, rfl, rfl, by kernel_rfl⟩
instance : TFld Try.prog 173 5 5 := ⟨_, _, 0, Try.underlying173, rfl, rfl, by kernel_rfl⟩
instance : TFld Try.prog 173 6 6 := ⟨_, _, 0, Try.underlying173, rfl, rfl, by kernel_rfl⟩
instance : TFld Try.prog 173 7 7 := ⟨_, _, 0, Try.underlying173, rfl, rfl, by kernel_rfl⟩
instance : TFld Try.prog 173 8 8 := ⟨_, _, 0, Try.underlying173, rfl, rfl, by kernel_rfl⟩
instance : TFld Try.prog 173 9 9 := ⟨_, _, 0, Try.underlying173, rfl, rfl, by kernel_rfl⟩
instance : TFld Try.prog 173 10 10 := ⟨_, _, 0, Try.underlying173, rfl, rfl, by kernel_rfl⟩
instance : TFun Try.prog 3 := ⟨_, Try.func3, by kernel_rfl, by kernel_rfl⟩
instance : TFun Try.prog 4 := ⟨_, Try.func4, by kernel_rfl, by kernel_rfl⟩
instance : TFun Try.prog 5 := ⟨_, Try.func5, by kernel_rfl, by kernel_rfl⟩
instance : TFun Try.prog 6 := ⟨_, Try.func6, by kernel_rfl, by kernel_rfl⟩
instance : TFun Try.prog 7 := ⟨_, Try.func7, by kernel_rfl, by kernel_rfl⟩
instance : TFun Try.prog 8 := ⟨_, Try.func8, by kernel_rfl, by kernel_rfl⟩
instance : TFun Try.prog 9 := ⟨_, Try.func9, by kernel_rfl, by kernel_rfl⟩
instance : TFun Try.prog 10 := ⟨_, Try.func10, by kernel_rfl, by kernel_rfl⟩
instance : TFun Try.prog 11 := ⟨_, Try.func11, by kernel_rfl, by kernel_rfl⟩
instance : TFun Try.prog 12 := ⟨_, Try.func12, by kernel_rfl, by kernel_rfl⟩
instance : TFun Try.prog 13 := ⟨_, Try.func13, by kernel_rfl, by kernel_rfl⟩
instance : TFun Try.prog 14 := ⟨_, Try.func14, by kernel_rfl, by kernel_rfl⟩
instance : TFun Try.prog 15 := ⟨_, Try.func15, by kernel_rfl, by kernel_rfl⟩
instance : TFun Try.prog 16 := ⟨_, Try.func16, by kernel_rfl, by kernel_rfl⟩
instance : TFun Try.prog 17 := ⟨_, Try.func17, by kernel_rfl, by kernel_rfl⟩
instance : TFun Try.prog 18 := ⟨_, Try.func18, by kernel_rfl, by kernel_rfl⟩
instance : TFun Try.prog 19 := ⟨_, Try.func19, by kernel_rfl, by kernel_rfl⟩
instance : TFun Try.prog 20 := ⟨_, Try.func20, by kernel_rfl, by kernel_rfl⟩
instance : TFun Try.prog 21 := ⟨_, Try.func21, by kernel_rfl, by kernel_rfl⟩
instance : TFun Try.prog 22 := ⟨_, Try.func22, by kernel_rfl, by kernel_rfl⟩
instance : TFun Try.prog 23 := ⟨_, Try.func23, by kernel_rfl, by kernel_rfl⟩
instance : TFun Try.prog 24 := ⟨_, Try.func24, by kernel_rfl, by kernel_rfl⟩
instance : TFun Try.prog 25 := ⟨_, Try.func25, by kernel_rfl, by kernel_rfl⟩
instance : TFun Try.prog 26 := ⟨_, Try.func26, by kernel_rfl, by kernel_rfl⟩
instance : TFun Try.prog 27 := ⟨_, Try.func27, by kernel_rfl, by kernel_rfl⟩
instance : TFun Try.prog 28 := ⟨_, Try.func28, by kernel_rfl, by kernel_rfl⟩
instance : TFun Try.prog 29 := ⟨_, Try.func29, by kernel_rfl, by kernel_rfl⟩
instance : TFun Try.prog 30 := ⟨_, Try.func30, by kernel_rfl, by kernel_rfl⟩
instance : TFun Try.prog 31 := ⟨_, Try.func31, by kernel_rfl, by kernel_rfl⟩
instance : TFun Try.prog 32 := ⟨_, Try.func32, by kernel_rfl, by kernel_rfl⟩
instance : TFun Try.prog 33 := ⟨_, Try.func33, by kernel_rfl, by kernel_rfl⟩
instance : TFun Try.prog 34 := ⟨_, Try.func34, by kernel_rfl, by kernel_rfl⟩
instance : TFun Try.prog 35 := ⟨_, Try.func35, by kernel_rfl, by kernel_rfl⟩
instance : TFun Try.prog 36 := ⟨_, Try.func36, by kernel_rfl, by kernel_rfl⟩
instance : TFun Try.prog 37 := ⟨_, Try.func37, by kernel_rfl, by kernel_rfl⟩
instance : TFun Try.prog 38 := ⟨_, Try.func38, by kernel_rfl, by kernel_rfl⟩
instance : TFun Try.prog 39 := ⟨_, Try.func39, by kernel_rfl, by kernel_rfl⟩
instance : TFun Try.prog 40 := ⟨_, Try.func40, by kernel_rfl, by kernel_rfl⟩
instance : TFun Try.prog 41 := ⟨_, Try.func41, by kernel_rfl, by kernel_rfl⟩
instance : TFun Try.prog 42 := ⟨_, Try.func42, by kernel_rfl, by kernel_rfl⟩
instance : TFun Try.prog 43 := ⟨_, Try.func43, by kernel_rfl, by kernel_rfl⟩
instance : TFun Try.prog 44 := ⟨_, Try.func44, by kernel_rfl, by kernel_rfl⟩
instance : TFun Try.prog 45 := ⟨_, Try.func45, by kernel_rfl, by kernel_rfl⟩
instance : TFun Try.prog 46 := ⟨_, Try.func46, by kernel_rfl, by kernel_rfl⟩
instance : TFun Try.prog 47 := ⟨_, Try.func47, by kernel_rfl, by kernel_rfl⟩
instance : TFun Try.prog 48 := ⟨_, Try.func48, by kernel_rfl, by kernel_rfl⟩
instance : TFun Try.prog 49 := ⟨_, Try.func49, by kernel_rfl, by kernel_rfl⟩
instance : TFun Try.prog 50 := ⟨_, Try.func50, by kernel_rfl, by kernel_rfl⟩
instance : TFun Try.prog 51 := ⟨_, Try.func51, by kernel_rfl, by kernel_rfl⟩
instance : TFun Try.prog 52 := ⟨_, Try.func52, by kernel_rfl, by kernel_rfl⟩
instance : TFun Try.prog 53 := ⟨_, Try.func53, by kernel_rfl, by kernel_rfl⟩
instance : TFun Try.prog 54 := ⟨_, Try.func54, by kernel_rfl, by kernel_rfl⟩
instance : TFun Try.prog 55 := ⟨_, Try.func55, by kernel_rfl, by kernel_rfl⟩
instance : TFun Try.prog 56 := ⟨_, Try.func56, by kernel_rfl, by kernel_rfl⟩
instance : TFun Try.prog 57 := ⟨_, Try.func57, by kernel_rfl, by kernel_rfl⟩
instance : TFun Try.prog 58 := ⟨_, Try.func58, by kernel_rfl, by kernel_rfl⟩
instance : TFun Try.prog 59 := ⟨_, Try.func59, by kernel_rfl, by kernel_rfl⟩
instance : TFun Try.prog 60 := ⟨_, Try.func60, by kernel_rfl, by kernel_rfl⟩
instance : TFun Try.prog 61 := ⟨_, Try.func61, by kernel_rfl, by kernel_rfl⟩
instance : TFun Try.prog 62 := ⟨_, Try.func62, by kernel_rfl, by kernel_rfl⟩
instance : TFun Try.prog 63 := ⟨_, Try.func63, by kernel_rfl, by kernel_rfl⟩
instance : TFun Try.prog 64 := ⟨_, Try.func64, by kernel_rfl, by kernel_rfl⟩
instance : TFun Try.prog 65 := ⟨_, Try.func65, by kernel_rfl, by kernel_rfl⟩
instance : TFun Try.prog 66 := ⟨_, Try.func66, by kernel_rfl, by kernel_rfl⟩
instance : TFun Try.prog 67 := ⟨_, Try.func67, by kernel_rfl, by kernel_rfl⟩
instance : TFun Try.prog 68 := ⟨_, Try.func68, by kernel_rfl, by kernel_rfl⟩
instance : TFun Try.prog 69 := ⟨_, Try.func69, by kernel_rfl, by kernel_rfl⟩
instance : TFun Try.prog 70 := ⟨_, Try.func70, by kernel_rfl, by kernel_rfl⟩
instance : TFun Try.prog 71 := ⟨_, Try.func71, by kernel_rfl, by kernel_rfl⟩
instance : TFun Try.prog 72 := ⟨_, Try.func72, by kernel_rfl, by kernel_rfl⟩
instance : TFun Try.prog 73 := ⟨_, Try.func73, by kernel_rfl, by kernel_rfl⟩
instance : TFun Try.prog 74 := ⟨_, Try.func74, by kernel_rfl, by kernel_rfl⟩
instance : TFun Try.prog 75 := ⟨_, Try.func75, by kernel_rfl, by kernel_rfl⟩
instance : TFun Try.prog 76 := ⟨_, Try.func76, by kernel_rfl, by kernel_rfl⟩
instance : TFun Try.prog 77 := ⟨_, Try.func77, by kernel_rfl, by kernel_rfl⟩
instance : TFun Try.prog 78 := ⟨_, Try.func78, by kernel_rfl, by kernel_rfl⟩
instance : TFun Try.prog 79 := ⟨_, Try.func79, by kernel_rfl, by kernel_rfl⟩
instance : TFun Try.prog 80 := ⟨_, Try.func80, by kernel_rfl, by kernel_rfl⟩
instance : TFun Try.prog 81 := ⟨_, Try.func81, by kernel_rfl, by kernel_rfl⟩
instance : TFun Try.prog 82 := ⟨_, Try.func82, by kernel_rfl, by kernel_rfl⟩
instance : TFun Try.prog 83 := ⟨_, Try.func83, by kernel_rfl, by kernel_rfl⟩
instance : TFun Try.prog 84 := ⟨_, Try.func84, by kernel_rfl, by kernel_rfl⟩
instance : TFun Try.prog 85 := ⟨_, Try.func85, by kernel_rfl, by kernel_rfl⟩
instance : TFun Try.prog 86 := ⟨_, Try.func86, by kernel_rfl, by kernel_rfl⟩
instance : TFun Try.prog 87 := ⟨_, Try.func87, by kernel_rfl, by kernel_rfl⟩
instance : TFun Try.prog 88 := ⟨_, Try.func88, by kernel_rfl, by kernel_rfl⟩
instance : TFun Try.prog 89 := ⟨_, Try.func89, by kernel_rfl, by kernel_rfl⟩

end Go.Proofs.Ytkkjjhooamlljaa
namespace Go.Proofs.Ytkkjjhooamlljaa
open Go.RowKit

end Go.Proofs.Ytkkjjhooamlljaa
namespace Go.Proofs.Ytkkjjhooamlljaa
open Go.RowKit
set_option linter.unusedVariables false
set_option linter.unusedSimpArgs false

section
variable {P : Program} {n : Nat} {W : World} {R : Rg W} {L : List Blk} {O : List Own} {E : List Res} {f : List (Nat × Value)} {Q : Exit → Go.Act → World → Prop} {ops : Array Oper} {rest : List Oper}
/-- A cursor may turn. -/
def curRg (T : TypeId) (B g : Nat) (W : World) (hg : g < W.heap.size) (hB : B ≤ g) : Rg W where
  p := fun k => k = g
  q := fun _ => False
  J := fun w => Cur B T w g
  low := fun k hk => by subst hk; exact hg
  sub := fun _ h => h.elim
  keep := fun S w w' h hm hs => h.mod hm (fun hS => hs g hg hS) (fun k hk hS => hs k (by omega) hS)
/-- What a drawing call gives. -/
def DrewV {ξ : Type} (T : TypeId) (B g : Nat) (w : World) (v : ξ → Value) (K : ξ → Prop) (e : Ending) (w' : World) : Prop := ∃ x, e = .returned (v x) ∧ K x ∧ Mod (fun k => k = g) w w' ∧ Cur B T w' g
theorem Drew.v {T : TypeId} {B g : Nat} {w : World} {p : Int → Prop} {e : Ending} {w' : World} (h : Drew B T g w p e w') : DrewV T B g w (fun x : Int => .int .i64 x) p e w' := by
  obtain ⟨x, hp, he, hc, hm⟩ := h
  exact ⟨x, he, hp, hm, hc⟩
variable {d : Option Nat} {dn g B T : Nat} {fn : FuncId} {ars : List Operand} {args : List Value} {aT : Array TypeId} {ty : TypeId} {pos : String} {af : Array Edge} {gd : Option (Nat × Bool)} {hg : g < W.heap.size} {hB : B ≤ g}
theorem SXl.draw {ξ : Type} {v : ξ → Value} [TFun P fn] (hw : wantO ops f ⟨some dn, .call ⟨.value (.func fn), ars.toArray, aT⟩, ty, pos, af, gd⟩ = some true) (hd : Nat.blt dn n = true) (ha : evL f ars = some args) (K : ξ → Prop)
    (hc : ∀ w, Loc W (curRg T B g W hg hB) L O [] w → Calls P fn args.toArray w (DrewV T B g w v K))
    (h : ∀ x, K x → SXl P n W (curRg T B g W hg hB) ops L O [] ((dn, v x) :: f) rest Q) : SXl P n W (curRg T B g W hg hB) ops L O [] f (⟨some dn, .call ⟨.value (.func fn), ars.toArray, aT⟩, ty, pos, af, gd⟩ :: rest) Q :=
  SXl.callJ (ξ := ξ) (v := v) (fun _ h => h) hw hd ha K hc h
end
end Go.Proofs.Ytkkjjhooamlljaa
namespace Go.Proofs.Ytkkjjhooamlljaa
open Go.RowKit

/-- What a block that a pointer names is. -/
def gOf (v : Value) : Nat := match v with
  | .pointer (some a) => a.block
  | _ => 0
/-- Only a new block of the cells z may turn, to the cells r. -/
def TQ (B T0 : Nat) (z r : List Value) (w w' : World) : Prop := Mod (fun k => B ≤ k ∧ w.heap[k]? = some (.cells z.toArray T0 (0, 0)) ∧ w'.heap[k]? = some (.cells r.toArray T0 (0, 0))) w w'
structure Far (W : World) (L : List Blk) (O : List Own) (E : List Res) (B : Nat) : Prop where
  old : W.heap.size ≤ B
  blk : ∀ b ∈ L, b.g < B
  own : ∀ o ∈ O, ∀ k, o.v.ownBlock = some k → k < B
  res : ∀ F ∈ E, ∀ k, F.foot k → k < B
section
variable {P : Program} {n : Nat} {W : World} {R : Rg W} {L : List Blk} {O : List Own} {E : List Res} {w w' : World} {B T0 : Nat} {z r : List Value}
theorem Loc.far (h : Loc W R L O E w) : Far W L O E w.heap.size := ⟨h.mod.size, fun b hb => h.blk_lt hb, fun o ho k hk => (ownBlock_lt (h.own o ho).1 hk).2, fun F hF k hk => (h.res F hF).2.1 k hk⟩
theorem Loc.keepQ (hf : Far W L O E B) (h : Loc W R L O E w) (hm : TQ B T0 z r w w') : Loc W R L O E w' :=
  h.frame hm (fun k hk hs => by have := hf.old; have := hs.1; omega) (fun b hb hs => by have := hf.blk b hb; have := hs.1; omega) (fun o ho k hk hs => by have := hf.own o ho k hk; have := hs.1; omega) (fun F hF k hk hs => by have := hf.res F hF k hk; have := hs.1; omega)
theorem Loc.addNew (hf : Far W L O E B) (h : Loc W R L O E w) {g : Nat} (hg : B ≤ g) (hb : w.heap[g]? = some (.cells r.toArray T0 (0, 0))) : Loc W R (⟨g, r, T0⟩ :: L) O E w where
  mod := h.mod
  inv := h.inv
  blk := fun b hbm => by
    rcases List.mem_cons.1 hbm with rfl | hbm
    · exact ⟨.inr (Nat.le_trans hf.old hg), hb⟩
    · exact h.blk b hbm
  apart := List.pairwise_cons.2 ⟨fun b hbm e => by have := hf.blk b hbm; simp only at e; omega, h.apart⟩
  own := fun o ho => ⟨(h.own o ho).1, fun b hbm e => by
    rcases List.mem_cons.1 hbm with rfl | hbm
    · have := hf.own o ho _ e; simp only at this; omega
    · exact (h.own o ho).2 b hbm e⟩
  ownApart := h.ownApart
  res := fun F hF => ⟨(h.res F hF).1, (h.res F hF).2.1, fun b hbm f => by
    rcases List.mem_cons.1 hbm with rfl | hbm
    · have := hf.res F hF _ f; simp only at this; omega
    · exact (h.res F hF).2.2.1 b hbm f, (h.res F hF).2.2.2⟩
  resNew := h.resNew
  resApart := h.resApart
/-- A pointer at a new block of the cells z or r. -/
def AV (B T0 : Nat) (z r : List Value) (w : World) (v : Value) : Prop := ∃ g, v = .pointer (some ⟨g, 0, none⟩) ∧ B ≤ g ∧ (w.heap[g]? = some (.cells z.toArray T0 (0, 0)) ∨ w.heap[g]? = some (.cells r.toArray T0 (0, 0)))
theorem AV.keep {v : Value} (h : AV B T0 z r w v) (hm : TQ B T0 z r w w') : AV B T0 z r w' v := by
  obtain ⟨g, h1, h2, h3⟩ := h
  refine ⟨g, h1, h2, ?_⟩
  by_cases hs : B ≤ g ∧ w.heap[g]? = some (.cells z.toArray T0 (0, 0)) ∧ w'.heap[g]? = some (.cells r.toArray T0 (0, 0))
  · exact .inr hs.2.2
  · have hlt : g < w.heap.size := by rcases h3 with h3 | h3 <;> exact (Array.getElem?_eq_some_iff.1 h3).1
    rw [hm.block g hlt hs]
    exact h3
/-- The block that operation ka made holds the cells r. -/
def SV (ka T0 : Nat) (r : List Value) (x : Nat → Value) (w : World) (_ : Value) : Prop := w.heap[gOf (x ka)]? = some (.cells r.toArray T0 (0, 0))
theorem SV.keep {ka : Nat} {x : Nat → Value} {v : Value} (h : SV ka T0 r x w v) (hm : TQ B T0 z r w w') : SV ka T0 r x w' v := by
  unfold SV at *
  by_cases hs : B ≤ gOf (x ka) ∧ w.heap[gOf (x ka)]? = some (.cells z.toArray T0 (0, 0)) ∧ w'.heap[gOf (x ka)]? = some (.cells r.toArray T0 (0, 0))
  · exact hs.2.2
  · rw [hm.block _ (Array.getElem?_eq_some_iff.1 h).1 hs]
    exact h
structure SXq (P : Program) (n : Nat) (W : World) (R : Rg W) (ops : Array Oper) (L : List Blk) (O : List Own) (E : List Res) (B T0 : Nat) (z r : List Value) (k : Nat) (U : List (Nat × ((Nat → Value) → World → Value → Prop))) (f : (Nat → Value) → List (Nat × Value)) (l : List Oper) (Q : Exit → Act → World → Prop) : Prop where
  run : ∀ F : (Nat → Value) → Act, (∀ x, Fr n (f x) (F x)) → RS P ops (TQ B T0 z r) (fun w => Loc W R L O E w ∧ B ≤ w.heap.size) Q k l F U
end
section
variable {P : Program} {n : Nat} {W : World} {R : Rg W} {L : List Blk} {O : List Own} {E : List Res} {U : List (Nat × ((Nat → Value) → World → Value → Prop))} {f : (Nat → Value) → List (Nat × Value)} {f0 : List (Nat × Value)} {Q : Exit → Act → World → Prop} {ops : Array Oper} {rest : List Oper} {k B T0 : Nat} {z r : List Value}
theorem SXq.v {o : Oper} {v : Value} {d : Nat} (hr : ∀ x, OpW P n W R L O E (f x) o v) (hdst : o.dst = some d) (hw : ∀ x, wantO ops (f x) o = some true) (hd : Nat.blt d n = true) (h : SXq P n W R ops L O E B T0 z r (k + 1) U (fun x => (d, v) :: f x) rest Q) : SXq P n W R ops L O E B T0 z r k U f (o :: rest) Q := ⟨fun F hF =>
  RS.val [] (fun _ => v) rfl (fun _ _ _ => rfl) (fun x => wanted_of (hF x) (hw x)) (fun x w hS _ => wp_never ((hr x).run _ w (hF x) hS.1) fun _ _ ⟨h1, h2⟩ => ⟨h1, ⟨hS.1.keep h2, Nat.le_trans hS.2 h2.size⟩, h2.mono fun _ _ f => f.elim⟩) (by rw [hdst]; exact h.run _ fun x => (hF x).put hd v)⟩
theorem SXq.no {o : Oper} {d : Nat} (hw : ∀ x, wantO ops (f x) o = some false) (hdst : o.dst = some d) (hd : Nat.blt d n = true) (h : SXq P n W R ops L O E B T0 z r (k + 1) U (fun x => (d, undef) :: f x) rest Q) : SXq P n W R ops L O E B T0 z r k U f (o :: rest) Q := ⟨fun F hF =>
  RS.skip (fun x => wanted_of (hF x) (hw x)) (by rw [hdst]; exact h.run _ fun x => (hF x).put hd undef)⟩
variable {d m ka ks : Nat} {xo yo : Operand} {ty : TypeId} {pos : String} {af : Array Edge} {gd : Option (Nat × Bool)}
theorem SXq.alloc [t : TZero P T0 z] (hf : Far W L O E B) (hw : ∀ x, wantO ops (f x) ⟨some d, .alloc T0, ty, pos, af, gd⟩ = some true) (hd : Nat.blt d n = true)
    (h : SXq P n W R ops L O E B T0 z r (k + 1) ((k, fun _ => AV B T0 z r) :: U) (fun x => (d, .pointer (some ⟨gOf (x k), 0, none⟩)) :: f x) rest Q) : SXq P n W R ops L O E B T0 z r k U f (⟨some d, .alloc T0, ty, pos, af, gd⟩ :: rest) Q := ⟨fun F hF =>
  RS.new [] (AV B T0 z r) (fun v => .pointer (some ⟨gOf v, 0, none⟩)) (fun _ v ⟨g, hv, _⟩ => by subst hv; rfl) rfl (fun _ _ _ h hm => h.keep hm) (fun x => wanted_of (hF x) (hw x)) (fun x w hS _ => by
    obtain ⟨v, h1, h2⟩ := t.h
    obtain ⟨i, hi, hz⟩ := Option.map_eq_some_iff.1 h1
    have hrun : (execOp (F x).eval ⟨some d, .alloc T0, ty, pos, af, gd⟩).run P w = .ok (.value (.pointer (some ⟨w.heap.size, 0, none⟩))) (w.alloc (.cells z.toArray T0)) := by
      simp [execOp, Instr.alloc, zeroValue, typeInfo, hi, hz, newVar, newRow, h2]
    unfold Oper.wp
    rw [hrun, Oper.upon_value]
    have hm : Mod (fun _ => False) w (w.alloc (.cells z.toArray T0)) := (Mod.refl _ w).alloc _
    exact ⟨_, rfl, ⟨w.heap.size, rfl, hS.2, .inl (heap_alloc_new w _)⟩, ⟨hS.1.keep hm, Nat.le_trans hS.2 hm.size⟩, hm.mono fun _ _ f => f.elim⟩) (h.run _ fun x => (hF x).put hd _)⟩
theorem SXq.store (ka : Nat) [t : TRow P T0 m] (hf : Far W L O E B) (hus : ([ka].all fun i => (reach ops ops.size k).contains i) = true) (hU : (ka, fun _ => AV B T0 z r) ∈ U) (hw : ∀ x, wantO ops (f x) ⟨none, .store T0 xo yo, ty, pos, af, gd⟩ = some true) (hx : ∀ x, evO (f x) xo = some (.pointer (some ⟨gOf (x ka), 0, none⟩))) (hy : ∀ x, evO (f x) yo = some (.agg r.toArray)) (hr : r.length = m) (hz : z.length = m) (hv : r.all (·.oneCell') = true)
    (h : SXq P n W R ops L O E B T0 z r (k + 1) ((k, SV ka T0 r) :: U) f rest Q) : SXq P n W R ops L O E B T0 z r k U f (⟨none, .store T0 xo yo, ty, pos, af, gd⟩ :: rest) Q := ⟨fun F hF =>
  RS.newx [ka] (SV ka T0 r) id (fun _ _ _ _ => rfl) hus ⟨fun _ _ _ _ h hm => h.keep hm, fun x y w v hxy h => by unfold SV at *; rw [← hxy ka List.mem_cons_self]; exact h⟩ (fun x => wanted_of (hF x) (hw x)) (fun x w hS hK => by
    obtain ⟨_, h3⟩ := t.h
    obtain ⟨g, hg, hB, hc⟩ := hK _ hU List.mem_cons_self
    have eg : gOf (x ka) = g := by rw [hg]; rfl
    have hxx := hx x
    rw [eg] at hxx
    have key : ∀ cs : List Value, cs.length = m → w.heap[g]? = some (.cells cs.toArray T0 (0, 0)) → (execOp (F x).eval ⟨none, .store T0 xo yo, ty, pos, af, gd⟩).run P w = .ok .skip (w.setCells g 0 r) ∧ (w.setCells g 0 r).heap[g]? = some (.cells r.toArray T0 (0, 0)) := fun cs hcs hb => by
      have e := run_store_row (P := P) (ty := T0) h3 (w := w) (b := g) (o := 0) (S := r.toArray) (by simp [hasRow, hb, hcs]) (by simp [openRow, hb]) (by simpa using hr) (by simpa using hv)
      refine ⟨by simp [execOp, (hF x).eval hxx, (hF x).eval (hy x), e], ?_⟩
      rw [setCells_heap g r 0 w _ _ _ hb, spl_over]
      have := over_all r cs [] (by omega)
      simp only [List.nil_append, List.length_nil] at this
      rw [this]
    have hmm := mod_setCells g r 0 w
    have fin : (execOp (F x).eval ⟨none, .store T0 xo yo, ty, pos, af, gd⟩).run P w = .ok .skip (w.setCells g 0 r) ∧ (w.setCells g 0 r).heap[g]? = some (.cells r.toArray T0 (0, 0)) ∧ TQ B T0 z r w (w.setCells g 0 r) := by
      rcases hc with hc | hc
      · obtain ⟨k1, k2⟩ := key z hz hc
        exact ⟨k1, k2, hmm.mono fun k _ e => by subst e; exact ⟨hB, hc, k2⟩⟩
      · obtain ⟨k1, k2⟩ := key r hr hc
        exact ⟨k1, k2, hmm.os, hmm.tape, hmm.output, hmm.size, fun k hk hn => by
          by_cases e : k = g
          · subst e; rw [k2, hc]
          · exact hmm.block k hk e⟩
    obtain ⟨k1, k2, k3⟩ := fin
    unfold Oper.wp
    rw [k1, Oper.upon_skip]
    exact ⟨undef, rfl, by unfold SV; rw [eg]; exact k2, ⟨Loc.keepQ hf hS.1 k3, Nat.le_trans hS.2 k3.size⟩, k3⟩) (h.run _ hF)⟩
theorem SXq.nil (ka ks : Nat) (hf : Far W L O E B) (hA : (ka, fun _ => AV B T0 z r) ∈ U) (hS : (ks, SV ka T0 r) ∈ U) (h : ∀ x, SQ n W R (⟨gOf (x ka), r, T0⟩ :: L) O E (f x) .normal Q) : SXq P n W R ops L O E B T0 z r k U f [] Q := ⟨fun F hF => RS.done fun x w hSw hU => by
  obtain ⟨g, hg, hB, _⟩ := hU _ hA
  have hs := hU _ hS
  have eg : gOf (x ka) = g := by rw [hg]; rfl
  exact (h x).run _ w (hF x) (Loc.addNew hf hSw.1 (by rw [eg]; exact hB) hs)⟩
/-! A literal slice of one cell, made in the region's head. -/
def sOf (v : Value) : Nat := match v with
  | .slice (some a) _ _ => a.block
  | _ => 0
def BV (B e : Nat) (u : Value) (w : World) (v : Value) : Prop := ∃ g, v = .slice (some ⟨g, 0, none⟩) 1 1 ∧ B ≤ g ∧ w.heap[g]? = some (.cells #[u] e (0, 0))
theorem SXq.lit1 {T e by_ : Nat} {zv u : Value} [t : TSl P T e 1] [te : TEl P e 1 by_ zv] (hf : Far W L O E B) (hw : ∀ x, wantO ops (f x) ⟨some d, .buildSlice T 1 #[(0, xo)], ty, pos, af, gd⟩ = some true) (hd : Nat.blt d n = true) (hx : ∀ x, evO (f x) xo = some u) (hv : u.cells = #[u]) (hz : zv.cells = #[zv])
    (h : SXq P n W R ops L O E B T0 [] r (k + 1) ((k, fun _ => BV B e u) :: U) (fun x => (d, .slice (some ⟨sOf (x k), 0, none⟩) 1 1) :: f x) rest Q) : SXq P n W R ops L O E B T0 [] r k U f (⟨some d, .buildSlice T 1 #[(0, xo)], ty, pos, af, gd⟩ :: rest) Q := ⟨fun F hF =>
  RS.new [] (BV B e u) (fun v => .slice (some ⟨sOf v, 0, none⟩) 1 1) (fun _ v ⟨g, hv, _⟩ => by subst hv; rfl) rfl (fun w w' v ⟨g, h1, h2, h3⟩ hm => ⟨g, h1, h2, by
    rw [hm.block g (Array.getElem?_eq_some_iff.1 h3).1 (fun hs => by have := hs.2.1; rw [h3] at this; simp at this)]
    exact h3⟩) (fun x => wanted_of (hF x) (hw x)) (fun x w hS _ => by
    obtain ⟨i0, q1, q2, q3, q4, q5, q6⟩ := te.h
    have hfill : Instr.fill (fun i => some (i, 1)) #[zv] [(0, u)] = some #[u] := by
      unfold Instr.fill
      simp [hv, Instr.fill, List.zipIdx]
      rw [hv]
      rfl
    have hrun : (execOp (F x).eval ⟨some d, .buildSlice T 1 #[(0, xo)], ty, pos, af, gd⟩).run P w = .ok (.value (.slice (some ⟨w.heap.size, 0, none⟩) 1 1)) (w.alloc (.cells #[u] e)) := by
      have e3 : (Array.range 1).map (fun _ => zv) = #[zv] := by
        apply Array.ext_getElem?
        intro i
        cases i <;> simp [Array.getElem?_map, Array.getElem?_range]
      simp only [execOp, Instr.buildSlice, Sem.run_bind, run_underlying t.h.1, Result.andThen_ok, sizeOf, typeInfo, run_program, q1, Sem.run_pure, q3, Nat.mul_one]
      simp [newRow, zeroValue, typeInfo, q1, q2, hz, Nat.mod_one, (hF x).eval (hx x), e3, hfill]
    unfold Oper.wp
    rw [hrun, Oper.upon_value]
    have hm : Mod (fun _ => False) w (w.alloc (.cells #[u] e)) := (Mod.refl _ w).alloc _
    exact ⟨_, rfl, ⟨w.heap.size, rfl, hS.2, heap_alloc_new w _⟩, ⟨hS.1.keep hm, Nat.le_trans hS.2 hm.size⟩, hm.mono fun _ _ f => f.elim⟩) (h.run _ fun x => (hF x).put hd _)⟩
theorem SXq.tail (h : ∀ x, SXl P n W R ops L O E (f x) rest Q) : SXq P n W R ops L O E B T0 z r k U f [] (fun _ a w => wpList P ops Q rest a w) := ⟨fun F hF => RS.done fun x w hSw _ => (h x).run _ w (hF x) hSw.1⟩
end
end Go.Proofs.Ytkkjjhooamlljaa
namespace Go.Proofs.Ytkkjjhooamlljaa
open Go.RowKit

/-- Where a slice lies. -/
structure SlP where
  a : Option Addr
  c : Nat
  lo : Nat
/-- Memory of which nothing more is told. -/
def deadRes : Res := ⟨fun _ => False, fun _ => True, fun _ _ _ _ _ _ => trivial⟩

end Go.Proofs.Ytkkjjhooamlljaa
namespace Go.Proofs.Ytkkjjhooamlljaa
open Go.RowKit
set_option linter.unusedVariables false
set_option linter.unusedSimpArgs false

/-- Slices of the call's own, each in a block of its own. -/
structure Owns (base : Nat) (w : World) (os : List Own) : Prop where
  row : ∀ o ∈ os, w.ownsRow base o.e o.sz o.v o.n o.xs
  apart : os.Pairwise (fun a b => ∀ k, a.v.ownBlock = some k → b.v.ownBlock ≠ some k)
theorem Owns.nil (base : Nat) (w : World) : Owns base w [] := ⟨fun _ h => (List.not_mem_nil h).elim, .nil⟩
theorem Owns.mod {base : Nat} {w w' : World} {os : List Own} {S : Nat → Prop} (h : Owns base w os) (hm : Mod S w w') (hs : ∀ o ∈ os, ∀ k, o.v.ownBlock = some k → ¬ S k) : Owns base w' os :=
  ⟨fun o ho => ownsRow_keep (h.row o ho) hm (hs o ho), h.apart⟩
theorem Owns.keep {base : Nat} {w w' : World} {os : List Own} (h : Owns base w os) (hm : Mod (fun _ => False) w w') : Owns base w' os := h.mod hm fun _ _ _ _ f => f
theorem Owns.low {base base' : Nat} {w : World} {os : List Own} (h : Owns base w os) (hb : base' ≤ base) : Owns base' w os := ⟨fun o ho => World.ownsRow.mono (h.row o ho) hb, h.apart⟩
theorem Owns.left {base : Nat} {w : World} {os ps : List Own} (h : Owns base w (os ++ ps)) : Owns base w os := ⟨fun o ho => h.row o (List.mem_append_left _ ho), (List.pairwise_append.1 h.apart).1⟩
theorem Owns.sub {base : Nat} {w : World} {os ps : List Own} (h : Owns base w ps) (hs : os.Sublist ps) : Owns base w os := ⟨fun o ho => h.row o (hs.subset ho), h.apart.sublist hs⟩
def NewO (ξ : Type) (v : ξ → Value) (os : ξ → List Own) (K : ξ → Prop) (w : World) (e : Ending) (w' : World) : Prop :=
  ∃ x, e = .returned (v x) ∧ K x ∧ Owns w.heap.size w' (os x) ∧ Mod (fun _ => False) w w'
section
variable {P : Program} {n : Nat} {W : World} {R : Rg W} {L : List Blk} {O : List Own} {E : List Res} {w w' : World} {B : Nat} {os : List Own}
theorem Loc.owns (h : Loc W R L O E w) : Owns W.heap.size w O := ⟨fun o ho => (h.own o ho).1, h.ownApart⟩
theorem Loc.addOwns (hf : Far W L O E B) (h : Loc W R L O E w) (ho : Owns B w os) : Loc W R L (os ++ O) E w where
  mod := h.mod
  inv := h.inv
  blk := h.blk
  apart := h.apart
  own := fun o hm => by
    rcases List.mem_append.1 hm with hm | hm
    · refine ⟨World.ownsRow.mono (ho.row o hm) hf.old, fun b hb e => ?_⟩
      have := hf.blk b hb
      have := (ownBlock_lt (ho.row o hm) e).1
      omega
    · exact h.own o hm
  ownApart := List.pairwise_append.2 ⟨ho.apart, h.ownApart, fun a ha b hb k hk e => by
    have := hf.own b hb k e
    have := (ownBlock_lt (ho.row a ha) hk).1
    omega⟩
  res := fun F hF => ⟨(h.res F hF).1, (h.res F hF).2.1, (h.res F hF).2.2.1, fun o hm k hk f => by
    rcases List.mem_append.1 hm with hm | hm
    · have := hf.res F hF k f
      have := (ownBlock_lt (ho.row o hm) hk).1
      omega
    · exact (h.res F hF).2.2.2 o hm k hk f⟩
  resNew := h.resNew
  resApart := h.resApart
theorem Loc.gotOwns (h : Loc W R L O E w) (hm : Mod (fun _ => False) w w') (ho : Owns w.heap.size w' os) : Loc W R L (os ++ O) E w' :=
  (h.keep hm).addOwns h.far ho
/-- Slices are put in another order, or dropped. -/
theorem Loc.ownSub (h : Loc W R L O E w) (hs : os.Sublist O) : Loc W R L os E w where
  mod := h.mod
  inv := h.inv
  blk := h.blk
  apart := h.apart
  own := fun o hm => h.own o (hs.subset hm)
  ownApart := h.ownApart.sublist hs
  res := fun F hF => ⟨(h.res F hF).1, (h.res F hF).2.1, (h.res F hF).2.2.1, fun o hm k hk f => (h.res F hF).2.2.2 o (hs.subset hm) k hk f⟩
  resNew := h.resNew
  resApart := h.resApart
theorem Loc.ownPerm (h : Loc W R L O E w) (hs : os.Perm O) : Loc W R L os E w where
  mod := h.mod
  inv := h.inv
  blk := h.blk
  apart := h.apart
  own := fun o hm => h.own o (hs.subset hm)
  ownApart := (hs.symm.pairwise_iff (fun {a b} hab k hk e => hab k e hk)).1 h.ownApart
  res := fun F hF => ⟨(h.res F hF).1, (h.res F hF).2.1, (h.res F hF).2.2.1, fun o hm k hk f => (h.res F hF).2.2.2 o (hs.subset hm) k hk f⟩
  resNew := h.resNew
  resApart := h.resApart
theorem Loc.dropO {o : Own} (h : Loc W R L (o :: O) E w) : Loc W R L O E w := h.ownSub (List.sublist_cons_self _ _)
theorem Loc.ownCell {i g m c e sz j : Nat} {xs : List Value} (h : Loc W R L O E w) (hi : O[i]? = some ⟨.slice (some ⟨g, 0, none⟩) m c, e, sz, m, xs⟩) {v : Value} (hv : xs[j]? = some v) : w.cell? ⟨g, j, none⟩ = some v := by
  have ho := (h.own _ (List.mem_iff_getElem?.2 ⟨i, hi⟩)).1
  simp only at ho
  rw [ho.cellAt j (by rw [← ho.1]; exact (List.getElem?_eq_some_iff.1 hv).1), hv]
end
section
variable {P : Program} {n : Nat} {W : World} {R : Rg W} {L : List Blk} {O : List Own} {E : List Res} {f : List (Nat × Value)} {Q : Exit → Act → World → Prop} {ops : Array Oper} {rest : List Oper} {d : Option Tmp} {dn : Nat} {T : TypeId} {x y : Operand} {ty : TypeId} {pos : String} {af : Array Edge} {gd : Option (Nat × Bool)} {g o : Nat}
/-- One cell that is told. -/
theorem OpW.loadLoc {v : Value} [TOne P T] (hx : evO f x = some (.pointer (some ⟨g, o, none⟩))) (hv : ∀ w, Loc W R L O E w → w.cell? ⟨g, o, none⟩ = some v) : OpW P n W R L O E f ⟨d, .load T x, ty, pos, af, gd⟩ v :=
  OpW.of (fun a w hf hl => by simp [execOp, hf.eval hx, run_load1 (hv w hl)])
/-- One cell of a slice of the call's own. -/
theorem OpW.loadOwn {v : Value} {m c e sz : Nat} {xs : List Value} (i : Nat) [TOne P T] (hx : evO f x = some (.pointer (some ⟨g, o, none⟩))) (hi : O[i]? = some ⟨.slice (some ⟨g, 0, none⟩) m c, e, sz, m, xs⟩) (hv : xs[o]? = some v) : OpW P n W R L O E f ⟨d, .load T x, ty, pos, af, gd⟩ v :=
  OpW.loadLoc hx fun w hl => hl.ownCell hi hv
theorem SXl.storeOwn {v : Value} {O' : List Own} {m c e sz : Nat} {xs : List Value} (i : Nat) [TOne P T] (hw : wantO ops f ⟨none, .store T x y, ty, pos, af, gd⟩ = some true) (hx : evO f x = some (.pointer (some ⟨g, o, none⟩))) (hy : evO f y = some v)
    (hi : O[i]? = some ⟨.slice (some ⟨g, 0, none⟩) m c, e, sz, m, xs⟩) (ho : o < xs.length) (hv : v.oneCell' = true) (hO : O.set i ⟨.slice (some ⟨g, 0, none⟩) m c, e, sz, m, xs.set o v⟩ = O') (h : SXl P n W R ops L O' E f rest Q) : SXl P n W R ops L O E f (⟨none, .store T x y, ty, pos, af, gd⟩ :: rest) Q :=
  SXl.steps hw rfl (fun a w hf hl => by
    have hown := (hl.own _ (List.mem_iff_getElem?.2 ⟨i, hi⟩)).1
    simp only at hown
    refine ⟨w.setCell ⟨g, o, none⟩ v, ?_, hO ▸ hl.ownTurned hi ?_ (hown.stored o v).1 (.inl rfl)⟩
    · simp [execOp, hf.eval hx, hf.eval hy, run_store1 (hl.ownCell hi (List.getElem?_eq_getElem ho)) (hown.frozenAt o) hv]
    · exact ((Mod.refl _ w).setAt _ _ _).mono fun k _ e => by subst e; rfl) h
/-- A call that hands back slices of the call's own. -/
theorem SXl.callO {ξ : Type} {v : ξ → Value} {os : ξ → List Own} {K : ξ → Prop} {fn : FuncId} {ars : List Operand} {args : List Value} {aT : Array TypeId} [TFun P fn] (hw : wantO ops f ⟨some dn, .call ⟨.value (.func fn), ars.toArray, aT⟩, ty, pos, af, gd⟩ = some true) (hd : Nat.blt dn n = true) (ha : evL f ars = some args)
    (hc : ∀ w, Loc W R L O E w → Calls P fn args.toArray w (NewO ξ v os K w))
    (h : ∀ x, K x → SXl P n W R ops L (os x ++ O) E ((dn, v x) :: f) rest Q) : SXl P n W R ops L O E f (⟨some dn, .call ⟨.value (.func fn), ars.toArray, aT⟩, ty, pos, af, gd⟩ :: rest) Q := ⟨fun a w hf hl => by
  unfold wpList
  rw [if_pos (wanted_of hf hw)]
  refine .inl ?_
  unfold Oper.wp
  rw [run_callop hf ha w _ _, Oper.upon_enter]
  refine (hc w hl).mono ?_
  rintro e w' ⟨x, rfl, hk, ho, hm⟩
  exact (h x hk).run _ _ (hf.put hd _) (hl.gotOwns hm ho)⟩
end
end Go.Proofs.Ytkkjjhooamlljaa
namespace Go.Proofs.Ytkkjjhooamlljaa
open Go.RowKit

def inB (n a b : Int) : Bool := decide (a ≤ n ∧ n ≤ b)
end Go.Proofs.Ytkkjjhooamlljaa
namespace Go.Proofs.Ytkkjjhooamlljaa

structure Space where
  mode : Int
  n : Int
  deriving DecidableEq, Inhabited
def Space.cells (s : Space) : List Value := [.int .i64 s.mode, .int .i64 s.n]

structure Asked where
  node : Int
  wide : Space
  high : Space
  rtl : Bool
  deriving DecidableEq, Inhabited
def Asked.cells (x : Asked) : List Value := [.int .i64 x.node, .int .i64 x.wide.mode, .int .i64 x.wide.n, .int .i64 x.high.mode, .int .i64 x.high.n, .bool x.rtl]

structure Rule where
  room : Int
  wide : Int
  high : Int
  deriving DecidableEq, Inhabited
def Rule.cells (x : Rule) : List Value := [.int .i64 x.room, .int .i64 x.wide, .int .i64 x.high]

structure Val where
  kind : Int
  n : Int
  deriving DecidableEq, Inhabited
def Val.cells (x : Val) : List Value := [.int .i64 x.kind, .int .i64 x.n]

structure ActD where
  kind : Int
  n : Int
  kid : Int
  pl : Int
  key : ByteArray
  value : Val
  table : List Rule
  wide : Int
  high : Int
  rtl : Bool
/-- An action's cells: the table is a slice. -/
def repAct (R : Nat → Prop) (w : World) (cs : List Value) (x : ActD) : Prop :=
  ∃ a c, cs = [.int .i64 x.kind, .int .i64 x.n, .int .i64 x.kid, .int .i64 x.pl, .string x.key, .int .i64 x.value.kind, .int .i64 x.value.n, .slice a x.table.length c, .int .i64 x.wide, .int .i64 x.high, .bool x.rtl] ∧ SliceAt (Flat Rule.cells) 3 R w a x.table
theorem repAct.mod {R S : Nat → Prop} {w w' : World} {cs : List Value} {x : ActD} (h : repAct R w cs x) (hm : Mod S w w') (hs : ∀ k, R k → ¬ S k) : repAct R w' cs x := by
  obtain ⟨a, c, h1, h2⟩ := h
  exact ⟨a, c, h1, h2.flatMod hm hs⟩

structure Frame where
  node : Int
  x : Int
  y : Int
  wide : Int
  high : Int
  deriving DecidableEq, Inhabited
def Frame.cells (f : Frame) : List Value := [.int .i64 f.node, .int .i64 f.x, .int .i64 f.y, .int .i64 f.wide, .int .i64 f.high]
structure Memo where
  node : Int
  wide : Space
  high : Space
  rtl : Bool
  bw : Int
  bh : Int
  bb : Int
  frames : List Frame
  deriving DecidableEq, Inhabited

end Go.Proofs.Ytkkjjhooamlljaa
namespace Go.Proofs.Ytkkjjhooamlljaa
open Go.RowKit

theorem toValue_any (x : Val) (w : World) : Calls Try.prog 80 #[.agg #[.int .i64 x.kind, .int .i64 x.n]] w fun e w' => e = .returned (.agg #[.int .i64 x.kind, .int .i64 x.n]) ∧ Mod (fun _ => False) w w' := by
  go_enter Try.func80, Try.ntmps80
  go_wp2
  refine bodyPost_ret (v := .agg #[.int .i64 x.kind, .int .i64 x.n]) (by simp [results, Try.results80, go_sem]) rfl ⟨rfl, by (repeat (first | with_reducible exact Mod.refl _ _ | with_reducible refine Mod.drewN ?_ _ | with_reducible refine Mod.drew ?_ | with_reducible refine Mod.alloc ?_ _ | ((with_reducible refine Mod.setNew ?_ ?_ _ _ _); (rotate_left; omega)) | with_reducible refine Mod.setAt ?_ _ _ _ ))⟩

set_option maxHeartbeats 1000000 in
theorem eqValue_any (x y : Val) (w : World) : Calls Try.prog 84 #[.agg #[.int .i64 x.kind, .int .i64 x.n], .agg #[.int .i64 y.kind, .int .i64 y.n]] w fun e w' => e = .returned (.bool (decide (x = y))) ∧ Mod (fun _ => False) w w' := by
  obtain ⟨x0, x1⟩ := x
  obtain ⟨y0, y1⟩ := y
  go_enter Try.func84, Try.ntmps84
  go_wp2
  all_goals
    go_ret
    refine ⟨ret_bool ?_, by (repeat (first | with_reducible exact Mod.refl _ _ | with_reducible refine Mod.drewN ?_ _ | with_reducible refine Mod.drew ?_ | with_reducible refine Mod.alloc ?_ _ | ((with_reducible refine Mod.setNew ?_ ?_ _ _ _); (rotate_left; omega)) | with_reducible refine Mod.setAt ?_ _ _ _ ))⟩
    simp_all

end Go.Proofs.Ytkkjjhooamlljaa
namespace Go.Proofs.Ytkkjjhooamlljaa
open Go.RowKit

theorem al2a (w : World) (A B : Obj) : ((w.alloc A).alloc B).heap[w.heap.size]? = some A := heap_alloc_keep (heap_alloc_new w A)
theorem al2b (w : World) (A B : Obj) : ((w.alloc A).alloc B).heap[w.heap.size + 1]? = some B := by
  have h := heap_alloc_new (w.alloc A) B
  rwa [World.size_alloc] at h
theorem al3a (w : World) (A B C : Obj) : (((w.alloc A).alloc B).alloc C).heap[w.heap.size]? = some A := heap_alloc_keep (heap_alloc_keep (heap_alloc_new w A))
theorem al3b (w : World) (A B C : Obj) : (((w.alloc A).alloc B).alloc C).heap[w.heap.size + 1]? = some B := by
  have h := heap_alloc_new (w.alloc A) B
  rw [World.size_alloc] at h
  exact heap_alloc_keep h
theorem al3c (w : World) (A B C : Obj) : (((w.alloc A).alloc B).alloc C).heap[w.heap.size + 1 + 1]? = some C := by
  have h := heap_alloc_new ((w.alloc A).alloc B) C
  rwa [World.size_alloc, World.size_alloc] at h
theorem set_in {w : World} {b j : Nat} {l : List Value} {T : TypeId} {fr : Nat × Nat} {v : Value} (h : w.heap[b]? = some (.cells l.toArray T fr)) : (w.setCell ⟨b, j, none⟩ v).heap[b]? = some (.cells (l.set j v).toArray T fr) := by
  simp [World.setCell, Array.getElem?_modify, h]

structure Sides where
  left : Val
  top : Val
  right : Val
  bottom : Val
  start : Val
  stop : Val
  deriving DecidableEq, Inhabited
def Sides.cells (x : Sides) : List Value := [.int .i64 x.left.kind, .int .i64 x.left.n, .int .i64 x.top.kind, .int .i64 x.top.n, .int .i64 x.right.kind, .int .i64 x.right.n, .int .i64 x.bottom.kind, .int .i64 x.bottom.n, .int .i64 x.start.kind, .int .i64 x.start.n, .int .i64 x.stop.kind, .int .i64 x.stop.n]

set_option maxRecDepth 100000 in
set_option maxHeartbeats 8000000 in
theorem toSides_any (x : Sides) (w : World) : Calls Try.prog 81 #[.agg #[.int .i64 x.left.kind, .int .i64 x.left.n, .int .i64 x.top.kind, .int .i64 x.top.n, .int .i64 x.right.kind, .int .i64 x.right.n, .int .i64 x.bottom.kind, .int .i64 x.bottom.n, .int .i64 x.start.kind, .int .i64 x.start.n, .int .i64 x.stop.kind, .int .i64 x.stop.n]] w fun e w' => e = .returned (.agg #[.int .i64 x.left.kind, .int .i64 x.left.n, .int .i64 x.top.kind, .int .i64 x.top.n, .int .i64 x.right.kind, .int .i64 x.right.n, .int .i64 x.bottom.kind, .int .i64 x.bottom.n, .int .i64 x.start.kind, .int .i64 x.start.n, .int .i64 x.stop.kind, .int .i64 x.stop.n]) ∧ Mod (fun _ => False) w w' := by
  go_enter Try.func81, Try.ntmps81
  go_wp2_with fail
  refine (toValue_any x.left _).mono ?_
  rintro e w1 ⟨rfl, hm1⟩
  have hM1 : Mod (fun _ => False) w w1 := by (repeat (first | with_reducible exact Mod.refl _ _ | with_reducible refine Mod.drewN ?_ _ | with_reducible refine Mod.drew ?_ | with_reducible refine Mod.alloc ?_ _ | ((with_reducible refine Mod.setNew ?_ ?_ _ _ _); (rotate_left; omega)) | with_reducible refine Mod.setAt ?_ _ _ _ | with_reducible exact hm1 | with_reducible refine Mod.thenNone ?_ hm1 ))
  have hS1 := hm1.blk (al3a _ _ _ _) (fun f => f)
  have hR1 := hm1.blk (al3b _ _ _ _) (fun f => f)
  have hD1 := hm1.blk (al3c _ _ _ _) (fun f => f)
  have c1_2 := blk_cell hS1 (j := 2) rfl
  have c1_3 := blk_cell hS1 (j := 3) rfl
  have d1_0 := blk_cell hD1 (j := 0) rfl
  have d1_1 := blk_cell hD1 (j := 1) rfl
  have z1_0 := blk_free hD1 0
  have z1_1 := blk_free hD1 1
  have hr1_0 : w.heap.size < w1.heap.size := (Array.getElem?_eq_some_iff.1 hS1).1
  have hr1_1 : w.heap.size + 1 < w1.heap.size := (Array.getElem?_eq_some_iff.1 hR1).1
  have hr1_2 : w.heap.size + 1 + 1 < w1.heap.size := (Array.getElem?_eq_some_iff.1 hD1).1
  clear hm1
  go_wp2_with fail
  refine (toValue_any x.top _).mono ?_
  rintro e w2 ⟨rfl, hm2⟩
  have hM2 : Mod (fun _ => False) w w2 := by (repeat (first | with_reducible exact Mod.refl _ _ | with_reducible refine Mod.drewN ?_ _ | with_reducible refine Mod.drew ?_ | with_reducible refine Mod.alloc ?_ _ | ((with_reducible refine Mod.setNew ?_ ?_ _ _ _); (rotate_left; omega)) | with_reducible refine Mod.setAt ?_ _ _ _ | with_reducible exact hm2 | with_reducible refine Mod.thenNone ?_ hm2 | with_reducible exact hM1 | with_reducible refine Mod.thenNone ?_ hM1 ))
  have hS2 := hm2.blk (set_far (set_far hS1 (by omega)) (by omega)) (fun f => f)
  have hR2 := hm2.blk (set_far (set_far hR1 (by omega)) (by omega)) (fun f => f)
  have hD2 : w2.heap[w.heap.size + 1 + 1]? = some (.cells #[.int .i64 x.left.kind, .int .i64 x.left.n, .int .i64 0, .int .i64 0, .int .i64 0, .int .i64 0, .int .i64 0, .int .i64 0, .int .i64 0, .int .i64 0, .int .i64 0, .int .i64 0] 104 (0, 0)) := hm2.blk (set_in (set_in hD1)) (fun f => f)
  have c2_4 := blk_cell hS2 (j := 4) rfl
  have c2_5 := blk_cell hS2 (j := 5) rfl
  have d2_2 := blk_cell hD2 (j := 2) rfl
  have d2_3 := blk_cell hD2 (j := 3) rfl
  have z2_2 := blk_free hD2 2
  have z2_3 := blk_free hD2 3
  have hr2_0 : w.heap.size < w2.heap.size := (Array.getElem?_eq_some_iff.1 hS2).1
  have hr2_1 : w.heap.size + 1 < w2.heap.size := (Array.getElem?_eq_some_iff.1 hR2).1
  have hr2_2 : w.heap.size + 1 + 1 < w2.heap.size := (Array.getElem?_eq_some_iff.1 hD2).1
  clear hm2 hS1 hR1 hD1 hM1 hr1_0 hr1_1 hr1_2 c1_2 c1_3 d1_0 z1_0 d1_1 z1_1
  go_wp2_with fail
  refine (toValue_any x.right _).mono ?_
  rintro e w3 ⟨rfl, hm3⟩
  have hM3 : Mod (fun _ => False) w w3 := by (repeat (first | with_reducible exact Mod.refl _ _ | with_reducible refine Mod.drewN ?_ _ | with_reducible refine Mod.drew ?_ | with_reducible refine Mod.alloc ?_ _ | ((with_reducible refine Mod.setNew ?_ ?_ _ _ _); (rotate_left; omega)) | with_reducible refine Mod.setAt ?_ _ _ _ | with_reducible exact hm3 | with_reducible refine Mod.thenNone ?_ hm3 | with_reducible exact hM2 | with_reducible refine Mod.thenNone ?_ hM2 ))
  have hS3 := hm3.blk (set_far (set_far hS2 (by omega)) (by omega)) (fun f => f)
  have hR3 := hm3.blk (set_far (set_far hR2 (by omega)) (by omega)) (fun f => f)
  have hD3 : w3.heap[w.heap.size + 1 + 1]? = some (.cells #[.int .i64 x.left.kind, .int .i64 x.left.n, .int .i64 x.top.kind, .int .i64 x.top.n, .int .i64 0, .int .i64 0, .int .i64 0, .int .i64 0, .int .i64 0, .int .i64 0, .int .i64 0, .int .i64 0] 104 (0, 0)) := hm3.blk (set_in (set_in hD2)) (fun f => f)
  have c3_6 := blk_cell hS3 (j := 6) rfl
  have c3_7 := blk_cell hS3 (j := 7) rfl
  have d3_4 := blk_cell hD3 (j := 4) rfl
  have d3_5 := blk_cell hD3 (j := 5) rfl
  have z3_4 := blk_free hD3 4
  have z3_5 := blk_free hD3 5
  have hr3_0 : w.heap.size < w3.heap.size := (Array.getElem?_eq_some_iff.1 hS3).1
  have hr3_1 : w.heap.size + 1 < w3.heap.size := (Array.getElem?_eq_some_iff.1 hR3).1
  have hr3_2 : w.heap.size + 1 + 1 < w3.heap.size := (Array.getElem?_eq_some_iff.1 hD3).1
  clear hm3 hS2 hR2 hD2 hM2 hr2_0 hr2_1 hr2_2 c2_4 c2_5 d2_2 z2_2 d2_3 z2_3
  go_wp2_with fail
  refine (toValue_any x.bottom _).mono ?_
  rintro e w4 ⟨rfl, hm4⟩
  have hM4 : Mod (fun _ => False) w w4 := by (repeat (first | with_reducible exact Mod.refl _ _ | with_reducible refine Mod.drewN ?_ _ | with_reducible refine Mod.drew ?_ | with_reducible refine Mod.alloc ?_ _ | ((with_reducible refine Mod.setNew ?_ ?_ _ _ _); (rotate_left; omega)) | with_reducible refine Mod.setAt ?_ _ _ _ | with_reducible exact hm4 | with_reducible refine Mod.thenNone ?_ hm4 | with_reducible exact hM3 | with_reducible refine Mod.thenNone ?_ hM3 ))
  have hS4 := hm4.blk (set_far (set_far hS3 (by omega)) (by omega)) (fun f => f)
  have hR4 := hm4.blk (set_far (set_far hR3 (by omega)) (by omega)) (fun f => f)
  have hD4 : w4.heap[w.heap.size + 1 + 1]? = some (.cells #[.int .i64 x.left.kind, .int .i64 x.left.n, .int .i64 x.top.kind, .int .i64 x.top.n, .int .i64 x.right.kind, .int .i64 x.right.n, .int .i64 0, .int .i64 0, .int .i64 0, .int .i64 0, .int .i64 0, .int .i64 0] 104 (0, 0)) := hm4.blk (set_in (set_in hD3)) (fun f => f)
  have c4_8 := blk_cell hS4 (j := 8) rfl
  have c4_9 := blk_cell hS4 (j := 9) rfl
  have d4_6 := blk_cell hD4 (j := 6) rfl
  have d4_7 := blk_cell hD4 (j := 7) rfl
  have z4_6 := blk_free hD4 6
  have z4_7 := blk_free hD4 7
  have hr4_0 : w.heap.size < w4.heap.size := (Array.getElem?_eq_some_iff.1 hS4).1
  have hr4_1 : w.heap.size + 1 < w4.heap.size := (Array.getElem?_eq_some_iff.1 hR4).1
  have hr4_2 : w.heap.size + 1 + 1 < w4.heap.size := (Array.getElem?_eq_some_iff.1 hD4).1
  clear hm4 hS3 hR3 hD3 hM3 hr3_0 hr3_1 hr3_2 c3_6 c3_7 d3_4 z3_4 d3_5 z3_5
  go_wp2_with fail
  refine (toValue_any x.start _).mono ?_
  rintro e w5 ⟨rfl, hm5⟩
  have hM5 : Mod (fun _ => False) w w5 := by (repeat (first | with_reducible exact Mod.refl _ _ | with_reducible refine Mod.drewN ?_ _ | with_reducible refine Mod.drew ?_ | with_reducible refine Mod.alloc ?_ _ | ((with_reducible refine Mod.setNew ?_ ?_ _ _ _); (rotate_left; omega)) | with_reducible refine Mod.setAt ?_ _ _ _ | with_reducible exact hm5 | with_reducible refine Mod.thenNone ?_ hm5 | with_reducible exact hM4 | with_reducible refine Mod.thenNone ?_ hM4 ))
  have hS5 := hm5.blk (set_far (set_far hS4 (by omega)) (by omega)) (fun f => f)
  have hR5 := hm5.blk (set_far (set_far hR4 (by omega)) (by omega)) (fun f => f)
  have hD5 : w5.heap[w.heap.size + 1 + 1]? = some (.cells #[.int .i64 x.left.kind, .int .i64 x.left.n, .int .i64 x.top.kind, .int .i64 x.top.n, .int .i64 x.right.kind, .int .i64 x.right.n, .int .i64 x.bottom.kind, .int .i64 x.bottom.n, .int .i64 0, .int .i64 0, .int .i64 0, .int .i64 0] 104 (0, 0)) := hm5.blk (set_in (set_in hD4)) (fun f => f)
  have c5_10 := blk_cell hS5 (j := 10) rfl
  have c5_11 := blk_cell hS5 (j := 11) rfl
  have d5_8 := blk_cell hD5 (j := 8) rfl
  have d5_9 := blk_cell hD5 (j := 9) rfl
  have z5_8 := blk_free hD5 8
  have z5_9 := blk_free hD5 9
  have hr5_0 : w.heap.size < w5.heap.size := (Array.getElem?_eq_some_iff.1 hS5).1
  have hr5_1 : w.heap.size + 1 < w5.heap.size := (Array.getElem?_eq_some_iff.1 hR5).1
  have hr5_2 : w.heap.size + 1 + 1 < w5.heap.size := (Array.getElem?_eq_some_iff.1 hD5).1
  clear hm5 hS4 hR4 hD4 hM4 hr4_0 hr4_1 hr4_2 c4_8 c4_9 d4_6 z4_6 d4_7 z4_7
  go_wp2_with fail
  refine (toValue_any x.stop _).mono ?_
  rintro e w6 ⟨rfl, hm6⟩
  have hM6 : Mod (fun _ => False) w w6 := by (repeat (first | with_reducible exact Mod.refl _ _ | with_reducible refine Mod.drewN ?_ _ | with_reducible refine Mod.drew ?_ | with_reducible refine Mod.alloc ?_ _ | ((with_reducible refine Mod.setNew ?_ ?_ _ _ _); (rotate_left; omega)) | with_reducible refine Mod.setAt ?_ _ _ _ | with_reducible exact hm6 | with_reducible refine Mod.thenNone ?_ hm6 | with_reducible exact hM5 | with_reducible refine Mod.thenNone ?_ hM5 ))
  have hS6 := hm6.blk (set_far (set_far hS5 (by omega)) (by omega)) (fun f => f)
  have hR6 := hm6.blk (set_far (set_far hR5 (by omega)) (by omega)) (fun f => f)
  have hD6 : w6.heap[w.heap.size + 1 + 1]? = some (.cells #[.int .i64 x.left.kind, .int .i64 x.left.n, .int .i64 x.top.kind, .int .i64 x.top.n, .int .i64 x.right.kind, .int .i64 x.right.n, .int .i64 x.bottom.kind, .int .i64 x.bottom.n, .int .i64 x.start.kind, .int .i64 x.start.n, .int .i64 0, .int .i64 0] 104 (0, 0)) := hm6.blk (set_in (set_in hD5)) (fun f => f)
  have d6_0 := blk_cell hD6 (j := 0) rfl
  have d6_1 := blk_cell hD6 (j := 1) rfl
  have d6_2 := blk_cell hD6 (j := 2) rfl
  have d6_3 := blk_cell hD6 (j := 3) rfl
  have d6_4 := blk_cell hD6 (j := 4) rfl
  have d6_5 := blk_cell hD6 (j := 5) rfl
  have d6_6 := blk_cell hD6 (j := 6) rfl
  have d6_7 := blk_cell hD6 (j := 7) rfl
  have d6_8 := blk_cell hD6 (j := 8) rfl
  have d6_9 := blk_cell hD6 (j := 9) rfl
  have d6_10 := blk_cell hD6 (j := 10) rfl
  have d6_11 := blk_cell hD6 (j := 11) rfl
  have z6_10 := blk_free hD6 10
  have z6_11 := blk_free hD6 11
  have r6_0 := blk_cell hR6 (j := 0) rfl
  have y6_0 := blk_free hR6 0
  have r6_1 := blk_cell hR6 (j := 1) rfl
  have y6_1 := blk_free hR6 1
  have r6_2 := blk_cell hR6 (j := 2) rfl
  have y6_2 := blk_free hR6 2
  have r6_3 := blk_cell hR6 (j := 3) rfl
  have y6_3 := blk_free hR6 3
  have r6_4 := blk_cell hR6 (j := 4) rfl
  have y6_4 := blk_free hR6 4
  have r6_5 := blk_cell hR6 (j := 5) rfl
  have y6_5 := blk_free hR6 5
  have r6_6 := blk_cell hR6 (j := 6) rfl
  have y6_6 := blk_free hR6 6
  have r6_7 := blk_cell hR6 (j := 7) rfl
  have y6_7 := blk_free hR6 7
  have r6_8 := blk_cell hR6 (j := 8) rfl
  have y6_8 := blk_free hR6 8
  have r6_9 := blk_cell hR6 (j := 9) rfl
  have y6_9 := blk_free hR6 9
  have r6_10 := blk_cell hR6 (j := 10) rfl
  have y6_10 := blk_free hR6 10
  have r6_11 := blk_cell hR6 (j := 11) rfl
  have y6_11 := blk_free hR6 11
  have hr6_0 : w.heap.size < w6.heap.size := (Array.getElem?_eq_some_iff.1 hS6).1
  have hr6_1 : w.heap.size + 1 < w6.heap.size := (Array.getElem?_eq_some_iff.1 hR6).1
  have hr6_2 : w.heap.size + 1 + 1 < w6.heap.size := (Array.getElem?_eq_some_iff.1 hD6).1
  clear hm6 hS5 hR5 hD5 hM5 hr5_0 hr5_1 hr5_2 c5_10 c5_11 d5_8 z5_8 d5_9 z5_9
  clear hS6 hR6 hD6
  go_wp2
  refine bodyPost_ret (v := .agg #[.int .i64 x.left.kind, .int .i64 x.left.n, .int .i64 x.top.kind, .int .i64 x.top.n, .int .i64 x.right.kind, .int .i64 x.right.n, .int .i64 x.bottom.kind, .int .i64 x.bottom.n, .int .i64 x.start.kind, .int .i64 x.start.n, .int .i64 x.stop.kind, .int .i64 x.stop.n]) ?_ rfl ⟨rfl, ?_⟩
  · simp [results, Try.results81, go_sem, *]
  · (repeat (first | with_reducible exact Mod.refl _ _ | with_reducible refine Mod.drewN ?_ _ | with_reducible refine Mod.drew ?_ | with_reducible refine Mod.alloc ?_ _ | ((with_reducible refine Mod.setNew ?_ ?_ _ _ _); (rotate_left; omega)) | with_reducible refine Mod.setAt ?_ _ _ _ | with_reducible exact hM6 | with_reducible refine Mod.thenNone ?_ hM6 ))

set_option maxRecDepth 100000 in
set_option maxHeartbeats 8000000 in
theorem eqSides_same (x : Sides) (w : World) : Calls Try.prog 85 #[.agg #[.int .i64 x.left.kind, .int .i64 x.left.n, .int .i64 x.top.kind, .int .i64 x.top.n, .int .i64 x.right.kind, .int .i64 x.right.n, .int .i64 x.bottom.kind, .int .i64 x.bottom.n, .int .i64 x.start.kind, .int .i64 x.start.n, .int .i64 x.stop.kind, .int .i64 x.stop.n], .agg #[.int .i64 x.left.kind, .int .i64 x.left.n, .int .i64 x.top.kind, .int .i64 x.top.n, .int .i64 x.right.kind, .int .i64 x.right.n, .int .i64 x.bottom.kind, .int .i64 x.bottom.n, .int .i64 x.start.kind, .int .i64 x.start.n, .int .i64 x.stop.kind, .int .i64 x.stop.n]] w fun e w' => e = .returned (.bool true) ∧ Mod (fun _ => False) w w' := by
  go_enter Try.func85, Try.ntmps85
  go_wp2_with fail
  refine (eqValue_any x.left x.left _).mono ?_
  rintro e w1 ⟨rfl, hm1⟩
  rw [decide_eq_true rfl]
  have hM1 : Mod (fun _ => False) w w1 := by (repeat (first | with_reducible exact Mod.refl _ _ | with_reducible refine Mod.drewN ?_ _ | with_reducible refine Mod.drew ?_ | with_reducible refine Mod.alloc ?_ _ | ((with_reducible refine Mod.setNew ?_ ?_ _ _ _); (rotate_left; omega)) | with_reducible refine Mod.setAt ?_ _ _ _ | with_reducible exact hm1 | with_reducible refine Mod.thenNone ?_ hm1 ))
  have hA1 := hm1.blk (al2a _ _ _) (fun f => f)
  have hB1 := hm1.blk (al2b _ _ _) (fun f => f)
  have c1_2 := blk_cell hA1 (j := 2) rfl
  have d1_2 := blk_cell hB1 (j := 2) rfl
  have c1_3 := blk_cell hA1 (j := 3) rfl
  have d1_3 := blk_cell hB1 (j := 3) rfl
  have hr1_0 : w.heap.size < w1.heap.size := (Array.getElem?_eq_some_iff.1 hA1).1
  have hr1_1 : w.heap.size + 1 < w1.heap.size := (Array.getElem?_eq_some_iff.1 hB1).1
  clear hm1
  go_wp2_with fail
  refine (eqValue_any x.top x.top _).mono ?_
  rintro e w2 ⟨rfl, hm2⟩
  rw [decide_eq_true rfl]
  have hM2 : Mod (fun _ => False) w w2 := hM1.thenNone hm2
  have hA2 := hm2.blk hA1 (fun f => f)
  have hB2 := hm2.blk hB1 (fun f => f)
  have c2_4 := blk_cell hA2 (j := 4) rfl
  have d2_4 := blk_cell hB2 (j := 4) rfl
  have c2_5 := blk_cell hA2 (j := 5) rfl
  have d2_5 := blk_cell hB2 (j := 5) rfl
  have hr2_0 : w.heap.size < w2.heap.size := (Array.getElem?_eq_some_iff.1 hA2).1
  have hr2_1 : w.heap.size + 1 < w2.heap.size := (Array.getElem?_eq_some_iff.1 hB2).1
  clear hm2 hA1 hB1 hM1 hr1_0 hr1_1 c1_2 d1_2 c1_3 d1_3
  go_wp2_with fail
  refine (eqValue_any x.right x.right _).mono ?_
  rintro e w3 ⟨rfl, hm3⟩
  rw [decide_eq_true rfl]
  have hM3 : Mod (fun _ => False) w w3 := hM2.thenNone hm3
  have hA3 := hm3.blk hA2 (fun f => f)
  have hB3 := hm3.blk hB2 (fun f => f)
  have c3_6 := blk_cell hA3 (j := 6) rfl
  have d3_6 := blk_cell hB3 (j := 6) rfl
  have c3_7 := blk_cell hA3 (j := 7) rfl
  have d3_7 := blk_cell hB3 (j := 7) rfl
  have hr3_0 : w.heap.size < w3.heap.size := (Array.getElem?_eq_some_iff.1 hA3).1
  have hr3_1 : w.heap.size + 1 < w3.heap.size := (Array.getElem?_eq_some_iff.1 hB3).1
  clear hm3 hA2 hB2 hM2 hr2_0 hr2_1 c2_4 d2_4 c2_5 d2_5
  go_wp2_with fail
  refine (eqValue_any x.bottom x.bottom _).mono ?_
  rintro e w4 ⟨rfl, hm4⟩
  rw [decide_eq_true rfl]
  have hM4 : Mod (fun _ => False) w w4 := hM3.thenNone hm4
  have hA4 := hm4.blk hA3 (fun f => f)
  have hB4 := hm4.blk hB3 (fun f => f)
  have c4_8 := blk_cell hA4 (j := 8) rfl
  have d4_8 := blk_cell hB4 (j := 8) rfl
  have c4_9 := blk_cell hA4 (j := 9) rfl
  have d4_9 := blk_cell hB4 (j := 9) rfl
  have hr4_0 : w.heap.size < w4.heap.size := (Array.getElem?_eq_some_iff.1 hA4).1
  have hr4_1 : w.heap.size + 1 < w4.heap.size := (Array.getElem?_eq_some_iff.1 hB4).1
  clear hm4 hA3 hB3 hM3 hr3_0 hr3_1 c3_6 d3_6 c3_7 d3_7
  go_wp2_with fail
  refine (eqValue_any x.start x.start _).mono ?_
  rintro e w5 ⟨rfl, hm5⟩
  rw [decide_eq_true rfl]
  have hM5 : Mod (fun _ => False) w w5 := hM4.thenNone hm5
  have hA5 := hm5.blk hA4 (fun f => f)
  have hB5 := hm5.blk hB4 (fun f => f)
  have c5_10 := blk_cell hA5 (j := 10) rfl
  have d5_10 := blk_cell hB5 (j := 10) rfl
  have c5_11 := blk_cell hA5 (j := 11) rfl
  have d5_11 := blk_cell hB5 (j := 11) rfl
  have hr5_0 : w.heap.size < w5.heap.size := (Array.getElem?_eq_some_iff.1 hA5).1
  have hr5_1 : w.heap.size + 1 < w5.heap.size := (Array.getElem?_eq_some_iff.1 hB5).1
  clear hm5 hA4 hB4 hM4 hr4_0 hr4_1 c4_8 d4_8 c4_9 d4_9
  go_wp2_with fail
  refine (eqValue_any x.stop x.stop _).mono ?_
  rintro e w6 ⟨rfl, hm6⟩
  rw [decide_eq_true rfl]
  have hM6 : Mod (fun _ => False) w w6 := hM5.thenNone hm6
  have hA6 := hm6.blk hA5 (fun f => f)
  have hB6 := hm6.blk hB5 (fun f => f)
  have hr6_0 : w.heap.size < w6.heap.size := (Array.getElem?_eq_some_iff.1 hA6).1
  have hr6_1 : w.heap.size + 1 < w6.heap.size := (Array.getElem?_eq_some_iff.1 hB6).1
  clear hm6 hA5 hB5 hM5 hr5_0 hr5_1 c5_10 d5_10 c5_11 d5_11
  clear hA6 hB6
  go_wp2
  go_ret
  exact ⟨rfl, hM6⟩

structure Edges where
  left : Int
  top : Int
  right : Int
  bottom : Int
  deriving DecidableEq, Inhabited
def Edges.cells (x : Edges) : List Value := [.int .i64 x.left, .int .i64 x.top, .int .i64 x.right, .int .i64 x.bottom]

set_option maxRecDepth 100000 in
set_option maxHeartbeats 8000000 in
theorem toEdges_any (x : Edges) (w : World) : Calls Try.prog 82 #[.agg #[.int .i64 x.left, .int .i64 x.top, .int .i64 x.right, .int .i64 x.bottom]] w fun e w' => e = .returned (.agg #[.int .i64 x.left, .int .i64 x.top, .int .i64 x.right, .int .i64 x.bottom]) ∧ Mod (fun _ => False) w w' := by
  go_enter Try.func82, Try.ntmps82
  go_wp2
  refine bodyPost_ret (v := .agg #[.int .i64 x.left, .int .i64 x.top, .int .i64 x.right, .int .i64 x.bottom]) (by simp [results, Try.results82, go_sem]) rfl ⟨rfl, by (repeat (first | with_reducible exact Mod.refl _ _ | with_reducible refine Mod.drewN ?_ _ | with_reducible refine Mod.drew ?_ | with_reducible refine Mod.alloc ?_ _ | ((with_reducible refine Mod.setNew ?_ ?_ _ _ _); (rotate_left; omega)) | with_reducible refine Mod.setAt ?_ _ _ _ ))⟩

set_option maxRecDepth 100000 in
set_option maxHeartbeats 8000000 in
theorem eqEdges_same (x : Edges) (w : World) : Calls Try.prog 86 #[.agg #[.int .i64 x.left, .int .i64 x.top, .int .i64 x.right, .int .i64 x.bottom], .agg #[.int .i64 x.left, .int .i64 x.top, .int .i64 x.right, .int .i64 x.bottom]] w fun e w' => e = .returned (.bool true) ∧ Mod (fun _ => False) w w' := by
  go_enter Try.func86, Try.ntmps86
  go_wp2
  go_ret
  exact ⟨rfl, by (repeat (first | with_reducible exact Mod.refl _ _ | with_reducible refine Mod.drewN ?_ _ | with_reducible refine Mod.drew ?_ | with_reducible refine Mod.alloc ?_ _ | ((with_reducible refine Mod.setNew ?_ ?_ _ _ _); (rotate_left; omega)) | with_reducible refine Mod.setAt ?_ _ _ _ ))⟩

structure Style where
  dir : Int
  wrap : Int
  justify : Int
  items : Int
  self : Int
  content : Int
  apart : Bool
  hidden : Bool
  order : Int
  grow : Int
  shrink : Int
  basis : Val
  width : Val
  height : Val
  minWidth : Val
  minHeight : Val
  maxWidth : Val
  maxHeight : Val
  ratio : Int
  margin : Sides
  inset : Sides
  pad : Edges
  border : Edges
  rowGap : Int
  colGap : Int
  deriving DecidableEq, Inhabited
def Style.cells (x : Style) : List Value := [.int .i64 x.dir, .int .i64 x.wrap, .int .i64 x.justify, .int .i64 x.items, .int .i64 x.self, .int .i64 x.content, .bool x.apart, .bool x.hidden, .int .i64 x.order, .int .i64 x.grow, .int .i64 x.shrink, .int .i64 x.basis.kind, .int .i64 x.basis.n, .int .i64 x.width.kind, .int .i64 x.width.n, .int .i64 x.height.kind, .int .i64 x.height.n, .int .i64 x.minWidth.kind, .int .i64 x.minWidth.n, .int .i64 x.minHeight.kind, .int .i64 x.minHeight.n, .int .i64 x.maxWidth.kind, .int .i64 x.maxWidth.n, .int .i64 x.maxHeight.kind, .int .i64 x.maxHeight.n, .int .i64 x.ratio, .int .i64 x.margin.left.kind, .int .i64 x.margin.left.n, .int .i64 x.margin.top.kind, .int .i64 x.margin.top.n, .int .i64 x.margin.right.kind, .int .i64 x.margin.right.n, .int .i64 x.margin.bottom.kind, .int .i64 x.margin.bottom.n, .int .i64 x.margin.start.kind, .int .i64 x.margin.start.n, .int .i64 x.margin.stop.kind, .int .i64 x.margin.stop.n, .int .i64 x.inset.left.kind, .int .i64 x.inset.left.n, .int .i64 x.inset.top.kind, .int .i64 x.inset.top.n, .int .i64 x.inset.right.kind, .int .i64 x.inset.right.n, .int .i64 x.inset.bottom.kind, .int .i64 x.inset.bottom.n, .int .i64 x.inset.start.kind, .int .i64 x.inset.start.n, .int .i64 x.inset.stop.kind, .int .i64 x.inset.stop.n, .int .i64 x.pad.left, .int .i64 x.pad.top, .int .i64 x.pad.right, .int .i64 x.pad.bottom, .int .i64 x.border.left, .int .i64 x.border.top, .int .i64 x.border.right, .int .i64 x.border.bottom, .int .i64 x.rowGap, .int .i64 x.colGap]

end Go.Proofs.Ytkkjjhooamlljaa
namespace Go.Proofs.Ytkkjjhooamlljaa
open Go.RowKit
set_option linter.unusedVariables false
set_option linter.unusedSimpArgs false

def valOk (v : Val) : Bool := if v.kind = 0 ∨ v.kind = 3 then decide (v.n = 0) else if v.kind = 1 then inB v.n (-1048576) 1048576 else if v.kind = 2 then inB v.n (-1000) 1000 else false
def sizeOk (v : Val) : Bool := valOk v && decide (0 ≤ v.n)
end Go.Proofs.Ytkkjjhooamlljaa
namespace Go.Proofs.Ytkkjjhooamlljaa
open Go.RowKit

theorem Style.len (s : Style) : s.cells.length = 60 := rfl
theorem Style.ones (s : Style) : s.cells.toArray.all (·.oneCell') = true := by simp [Style.cells, Value.oneCell']
@[go_sem] theorem Style.set54 (s : Style) (v : Int) : s.cells.set 54 (.int .i64 v) = Style.cells { s with border := { s.border with left := v } } := rfl
@[go_sem] theorem Style.set55 (s : Style) (v : Int) : s.cells.set 55 (.int .i64 v) = Style.cells { s with border := { s.border with top := v } } := rfl
@[go_sem] theorem Style.set56 (s : Style) (v : Int) : s.cells.set 56 (.int .i64 v) = Style.cells { s with border := { s.border with right := v } } := rfl
@[go_sem] theorem Style.set57 (s : Style) (v : Int) : s.cells.set 57 (.int .i64 v) = Style.cells { s with border := { s.border with bottom := v } } := rfl
@[go_sem] theorem Style.set58 (s : Style) (v : Int) : s.cells.set 58 (.int .i64 v) = Style.cells { s with rowGap := v } := rfl
@[go_sem] theorem Style.set59 (s : Style) (v : Int) : s.cells.set 59 (.int .i64 v) = Style.cells { s with colGap := v } := rfl
theorem spl_mid (a x b y : List Value) (h : x.length = y.length) : spl (a ++ x ++ b).toArray a.length y = (a ++ y ++ b).toArray := by
  induction y generalizing a x with
  | nil =>
    cases x with
    | nil => rfl
    | cons v x => simp at h
  | cons u y ih =>
    cases x with
    | nil => simp at h
    | cons v x =>
      simp only [List.length_cons, Nat.add_right_cancel_iff] at h
      have e : (a ++ (v :: x) ++ b).toArray.setIfInBounds a.length u = ((a ++ [u]) ++ x ++ b).toArray := by simp
      have h1 := ih (a ++ [u]) x h
      rw [spl_cons, e]
      simpa using h1
theorem row_blk {w : World} {b : Nat} {l : List Value} {T : TypeId} (h : w.heap[b]? = some (.cells l.toArray T (0, 0))) (o n : Nat) (hn : o + n ≤ l.length) :
    hasRow w b o n = true ∧ rowOf w b o n = ((l.drop o).take n).toArray ∧ openRow w b = true := by
  refine ⟨by simp [hasRow, h, hn], ?_, by simp [openRow, h]⟩
  unfold rowOf
  rw [h]
  simp
@[go_sem ↓] theorem exec_load_lStyle (ρ : Operand → Value) (d : Option Tmp) (x : Operand) (ty : TypeId) (pos : String) (af : Array Edge) (g : Option (Nat × Bool)) (w : World) :
    (execOp ρ { dst := d, op := .load 89 x, type := ty, pos, after := af, guard := g }).run Try.prog w = LoadS Try.prog 89 (ρ x) w := rfl
@[go_sem ↓] theorem exec_load_iStyle (ρ : Operand → Value) (d : Option Tmp) (x : Operand) (ty : TypeId) (pos : String) (af : Array Edge) (g : Option (Nat × Bool)) (w : World) :
    (execOp ρ { dst := d, op := .load 107 x, type := ty, pos, after := af, guard := g }).run Try.prog w = LoadS Try.prog 107 (ρ x) w := rfl
@[go_sem ↓] theorem exec_store_iStyle (ρ : Operand → Value) (d : Option Tmp) (x y : Operand) (ty : TypeId) (pos : String) (af : Array Edge) (g : Option (Nat × Bool)) (w : World) :
    (execOp ρ { dst := d, op := .store 107 x y, type := ty, pos, after := af, guard := g }).run Try.prog w = StoreS Try.prog 107 (ρ x) (ρ y) w := rfl
@[go_sem] theorem LoadS_lStyle {w : World} {b o : Nat} (h : hasRow w b o 60 = true) : LoadS Try.prog 89 (.pointer (some ⟨b, o, none⟩)) w = .ok (.value (.agg (rowOf w b o 60))) w := LoadS_row Try.underlying89 rfl (by kernel_rfl) h
@[go_sem] theorem LoadS_iStyle {w : World} {b o : Nat} (h : hasRow w b o 60 = true) : LoadS Try.prog 107 (.pointer (some ⟨b, o, none⟩)) w = .ok (.value (.agg (rowOf w b o 60))) w := LoadS_row Try.underlying107 rfl (by kernel_rfl) h
@[go_sem] theorem StoreS_iStyle {w : World} {b o : Nat} {s : Style} (h : hasRow w b o 60 = true) (hz : openRow w b = true) : StoreS Try.prog 107 (.pointer (some ⟨b, o, none⟩)) (.agg s.cells.toArray) w = .ok .skip (w.setCells b o s.cells) := StoreS_row (by kernel_rfl) h hz rfl (Style.ones s)

end Go.Proofs.Ytkkjjhooamlljaa
namespace Go.Proofs.Ytkkjjhooamlljaa
open Go.RowKit

set_option maxRecDepth 100000 in
set_option maxHeartbeats 8000000 in
theorem toStyle_any (x : Style) (w : World) : Calls Try.prog 70 #[.agg #[.int .i64 x.dir, .int .i64 x.wrap, .int .i64 x.justify, .int .i64 x.items, .int .i64 x.self, .int .i64 x.content, .bool x.apart, .bool x.hidden, .int .i64 x.order, .int .i64 x.grow, .int .i64 x.shrink, .int .i64 x.basis.kind, .int .i64 x.basis.n, .int .i64 x.width.kind, .int .i64 x.width.n, .int .i64 x.height.kind, .int .i64 x.height.n, .int .i64 x.minWidth.kind, .int .i64 x.minWidth.n, .int .i64 x.minHeight.kind, .int .i64 x.minHeight.n, .int .i64 x.maxWidth.kind, .int .i64 x.maxWidth.n, .int .i64 x.maxHeight.kind, .int .i64 x.maxHeight.n, .int .i64 x.ratio, .int .i64 x.margin.left.kind, .int .i64 x.margin.left.n, .int .i64 x.margin.top.kind, .int .i64 x.margin.top.n, .int .i64 x.margin.right.kind, .int .i64 x.margin.right.n, .int .i64 x.margin.bottom.kind, .int .i64 x.margin.bottom.n, .int .i64 x.margin.start.kind, .int .i64 x.margin.start.n, .int .i64 x.margin.stop.kind, .int .i64 x.margin.stop.n, .int .i64 x.inset.left.kind, .int .i64 x.inset.left.n, .int .i64 x.inset.top.kind, .int .i64 x.inset.top.n, .int .i64 x.inset.right.kind, .int .i64 x.inset.right.n, .int .i64 x.inset.bottom.kind, .int .i64 x.inset.bottom.n, .int .i64 x.inset.start.kind, .int .i64 x.inset.start.n, .int .i64 x.inset.stop.kind, .int .i64 x.inset.stop.n, .int .i64 x.pad.left, .int .i64 x.pad.top, .int .i64 x.pad.right, .int .i64 x.pad.bottom, .int .i64 x.border.left, .int .i64 x.border.top, .int .i64 x.border.right, .int .i64 x.border.bottom, .int .i64 x.rowGap, .int .i64 x.colGap]] w fun e w' => e = .returned (.agg #[.int .i64 x.dir, .int .i64 x.wrap, .int .i64 x.justify, .int .i64 x.items, .int .i64 x.self, .int .i64 x.content, .bool x.apart, .bool x.hidden, .int .i64 x.order, .int .i64 x.grow, .int .i64 x.shrink, .int .i64 x.basis.kind, .int .i64 x.basis.n, .int .i64 x.width.kind, .int .i64 x.width.n, .int .i64 x.height.kind, .int .i64 x.height.n, .int .i64 x.minWidth.kind, .int .i64 x.minWidth.n, .int .i64 x.minHeight.kind, .int .i64 x.minHeight.n, .int .i64 x.maxWidth.kind, .int .i64 x.maxWidth.n, .int .i64 x.maxHeight.kind, .int .i64 x.maxHeight.n, .int .i64 x.ratio, .int .i64 x.margin.left.kind, .int .i64 x.margin.left.n, .int .i64 x.margin.top.kind, .int .i64 x.margin.top.n, .int .i64 x.margin.right.kind, .int .i64 x.margin.right.n, .int .i64 x.margin.bottom.kind, .int .i64 x.margin.bottom.n, .int .i64 x.margin.start.kind, .int .i64 x.margin.start.n, .int .i64 x.margin.stop.kind, .int .i64 x.margin.stop.n, .int .i64 x.inset.left.kind, .int .i64 x.inset.left.n, .int .i64 x.inset.top.kind, .int .i64 x.inset.top.n, .int .i64 x.inset.right.kind, .int .i64 x.inset.right.n, .int .i64 x.inset.bottom.kind, .int .i64 x.inset.bottom.n, .int .i64 x.inset.start.kind, .int .i64 x.inset.start.n, .int .i64 x.inset.stop.kind, .int .i64 x.inset.stop.n, .int .i64 x.pad.left, .int .i64 x.pad.top, .int .i64 x.pad.right, .int .i64 x.pad.bottom, .int .i64 x.border.left, .int .i64 x.border.top, .int .i64 x.border.right, .int .i64 x.border.bottom, .int .i64 x.rowGap, .int .i64 x.colGap]) ∧ Mod (fun _ => False) w w' := by
  go_enter Try.func70, Try.ntmps70
  go_wp2_with fail
  refine (toValue_any x.basis _).mono ?_
  rintro e w1 ⟨rfl, hm1⟩
  have hM1 : Mod (fun _ => False) w w1 := by (repeat (first | with_reducible exact Mod.refl _ _ | with_reducible refine Mod.drewN ?_ _ | with_reducible refine Mod.drew ?_ | with_reducible refine Mod.alloc ?_ _ | ((with_reducible refine Mod.setNew ?_ ?_ _ _ _); (rotate_left; omega)) | with_reducible refine Mod.setAt ?_ _ _ _ | with_reducible exact hm1 | with_reducible refine Mod.thenNone ?_ hm1 ))
  have hS1 := hm1.blk (al3a _ _ _ _) (fun f => f)
  have hR1 := hm1.blk (al3b _ _ _ _) (fun f => f)
  have hD1 := hm1.blk (al3c _ _ _ _) (fun f => f)
  have c1_13 := blk_cell hS1 (j := 13) rfl
  have c1_14 := blk_cell hS1 (j := 14) rfl
  have d1_11 := blk_cell hD1 (j := 11) rfl
  have d1_12 := blk_cell hD1 (j := 12) rfl
  have z1_11 := blk_free hD1 11
  have z1_12 := blk_free hD1 12
  have hr1_0 : w.heap.size < w1.heap.size := (Array.getElem?_eq_some_iff.1 hS1).1
  have hr1_1 : w.heap.size + 1 < w1.heap.size := (Array.getElem?_eq_some_iff.1 hR1).1
  have hr1_2 : w.heap.size + 1 + 1 < w1.heap.size := (Array.getElem?_eq_some_iff.1 hD1).1
  clear hm1
  go_wp2_with fail
  refine (toValue_any x.width _).mono ?_
  rintro e w2 ⟨rfl, hm2⟩
  have hM2 : Mod (fun _ => False) w w2 := by (repeat (first | with_reducible exact Mod.refl _ _ | with_reducible refine Mod.drewN ?_ _ | with_reducible refine Mod.drew ?_ | with_reducible refine Mod.alloc ?_ _ | ((with_reducible refine Mod.setNew ?_ ?_ _ _ _); (rotate_left; omega)) | with_reducible refine Mod.setAt ?_ _ _ _ | with_reducible exact hm2 | with_reducible refine Mod.thenNone ?_ hm2 | with_reducible exact hM1 | with_reducible refine Mod.thenNone ?_ hM1 ))
  have hS2 := hm2.blk (set_far (set_far hS1 (by omega)) (by omega)) (fun f => f)
  have hR2 := hm2.blk (set_far (set_far hR1 (by omega)) (by omega)) (fun f => f)
  have hD2 : w2.heap[w.heap.size + 1 + 1]? = some (.cells #[.int .i64 x.dir, .int .i64 x.wrap, .int .i64 x.justify, .int .i64 x.items, .int .i64 x.self, .int .i64 x.content, .bool x.apart, .bool x.hidden, .int .i64 x.order, .int .i64 x.grow, .int .i64 x.shrink, .int .i64 x.basis.kind, .int .i64 x.basis.n, .int .i64 0, .int .i64 0, .int .i64 0, .int .i64 0, .int .i64 0, .int .i64 0, .int .i64 0, .int .i64 0, .int .i64 0, .int .i64 0, .int .i64 0, .int .i64 0, .int .i64 0, .int .i64 0, .int .i64 0, .int .i64 0, .int .i64 0, .int .i64 0, .int .i64 0, .int .i64 0, .int .i64 0, .int .i64 0, .int .i64 0, .int .i64 0, .int .i64 0, .int .i64 0, .int .i64 0, .int .i64 0, .int .i64 0, .int .i64 0, .int .i64 0, .int .i64 0, .int .i64 0, .int .i64 0, .int .i64 0, .int .i64 0, .int .i64 0, .int .i64 0, .int .i64 0, .int .i64 0, .int .i64 0, .int .i64 0, .int .i64 0, .int .i64 0, .int .i64 0, .int .i64 0, .int .i64 0] 107 (0, 0)) := hm2.blk (set_in (set_in hD1)) (fun f => f)
  have c2_15 := blk_cell hS2 (j := 15) rfl
  have c2_16 := blk_cell hS2 (j := 16) rfl
  have d2_13 := blk_cell hD2 (j := 13) rfl
  have d2_14 := blk_cell hD2 (j := 14) rfl
  have z2_13 := blk_free hD2 13
  have z2_14 := blk_free hD2 14
  have hr2_0 : w.heap.size < w2.heap.size := (Array.getElem?_eq_some_iff.1 hS2).1
  have hr2_1 : w.heap.size + 1 < w2.heap.size := (Array.getElem?_eq_some_iff.1 hR2).1
  have hr2_2 : w.heap.size + 1 + 1 < w2.heap.size := (Array.getElem?_eq_some_iff.1 hD2).1
  clear hm2 hS1 hR1 hD1 hM1 hr1_0 hr1_1 hr1_2 c1_13 c1_14 d1_11 z1_11 d1_12 z1_12
  go_wp2_with fail
  refine (toValue_any x.height _).mono ?_
  rintro e w3 ⟨rfl, hm3⟩
  have hM3 : Mod (fun _ => False) w w3 := by (repeat (first | with_reducible exact Mod.refl _ _ | with_reducible refine Mod.drewN ?_ _ | with_reducible refine Mod.drew ?_ | with_reducible refine Mod.alloc ?_ _ | ((with_reducible refine Mod.setNew ?_ ?_ _ _ _); (rotate_left; omega)) | with_reducible refine Mod.setAt ?_ _ _ _ | with_reducible exact hm3 | with_reducible refine Mod.thenNone ?_ hm3 | with_reducible exact hM2 | with_reducible refine Mod.thenNone ?_ hM2 ))
  have hS3 := hm3.blk (set_far (set_far hS2 (by omega)) (by omega)) (fun f => f)
  have hR3 := hm3.blk (set_far (set_far hR2 (by omega)) (by omega)) (fun f => f)
  have hD3 : w3.heap[w.heap.size + 1 + 1]? = some (.cells #[.int .i64 x.dir, .int .i64 x.wrap, .int .i64 x.justify, .int .i64 x.items, .int .i64 x.self, .int .i64 x.content, .bool x.apart, .bool x.hidden, .int .i64 x.order, .int .i64 x.grow, .int .i64 x.shrink, .int .i64 x.basis.kind, .int .i64 x.basis.n, .int .i64 x.width.kind, .int .i64 x.width.n, .int .i64 0, .int .i64 0, .int .i64 0, .int .i64 0, .int .i64 0, .int .i64 0, .int .i64 0, .int .i64 0, .int .i64 0, .int .i64 0, .int .i64 0, .int .i64 0, .int .i64 0, .int .i64 0, .int .i64 0, .int .i64 0, .int .i64 0, .int .i64 0, .int .i64 0, .int .i64 0, .int .i64 0, .int .i64 0, .int .i64 0, .int .i64 0, .int .i64 0, .int .i64 0, .int .i64 0, .int .i64 0, .int .i64 0, .int .i64 0, .int .i64 0, .int .i64 0, .int .i64 0, .int .i64 0, .int .i64 0, .int .i64 0, .int .i64 0, .int .i64 0, .int .i64 0, .int .i64 0, .int .i64 0, .int .i64 0, .int .i64 0, .int .i64 0, .int .i64 0] 107 (0, 0)) := hm3.blk (set_in (set_in hD2)) (fun f => f)
  have c3_17 := blk_cell hS3 (j := 17) rfl
  have c3_18 := blk_cell hS3 (j := 18) rfl
  have d3_15 := blk_cell hD3 (j := 15) rfl
  have d3_16 := blk_cell hD3 (j := 16) rfl
  have z3_15 := blk_free hD3 15
  have z3_16 := blk_free hD3 16
  have hr3_0 : w.heap.size < w3.heap.size := (Array.getElem?_eq_some_iff.1 hS3).1
  have hr3_1 : w.heap.size + 1 < w3.heap.size := (Array.getElem?_eq_some_iff.1 hR3).1
  have hr3_2 : w.heap.size + 1 + 1 < w3.heap.size := (Array.getElem?_eq_some_iff.1 hD3).1
  clear hm3 hS2 hR2 hD2 hM2 hr2_0 hr2_1 hr2_2 c2_15 c2_16 d2_13 z2_13 d2_14 z2_14
  go_wp2_with fail
  refine (toValue_any x.minWidth _).mono ?_
  rintro e w4 ⟨rfl, hm4⟩
  have hM4 : Mod (fun _ => False) w w4 := by (repeat (first | with_reducible exact Mod.refl _ _ | with_reducible refine Mod.drewN ?_ _ | with_reducible refine Mod.drew ?_ | with_reducible refine Mod.alloc ?_ _ | ((with_reducible refine Mod.setNew ?_ ?_ _ _ _); (rotate_left; omega)) | with_reducible refine Mod.setAt ?_ _ _ _ | with_reducible exact hm4 | with_reducible refine Mod.thenNone ?_ hm4 | with_reducible exact hM3 | with_reducible refine Mod.thenNone ?_ hM3 ))
  have hS4 := hm4.blk (set_far (set_far hS3 (by omega)) (by omega)) (fun f => f)
  have hR4 := hm4.blk (set_far (set_far hR3 (by omega)) (by omega)) (fun f => f)
  have hD4 : w4.heap[w.heap.size + 1 + 1]? = some (.cells #[.int .i64 x.dir, .int .i64 x.wrap, .int .i64 x.justify, .int .i64 x.items, .int .i64 x.self, .int .i64 x.content, .bool x.apart, .bool x.hidden, .int .i64 x.order, .int .i64 x.grow, .int .i64 x.shrink, .int .i64 x.basis.kind, .int .i64 x.basis.n, .int .i64 x.width.kind, .int .i64 x.width.n, .int .i64 x.height.kind, .int .i64 x.height.n, .int .i64 0, .int .i64 0, .int .i64 0, .int .i64 0, .int .i64 0, .int .i64 0, .int .i64 0, .int .i64 0, .int .i64 0, .int .i64 0, .int .i64 0, .int .i64 0, .int .i64 0, .int .i64 0, .int .i64 0, .int .i64 0, .int .i64 0, .int .i64 0, .int .i64 0, .int .i64 0, .int .i64 0, .int .i64 0, .int .i64 0, .int .i64 0, .int .i64 0, .int .i64 0, .int .i64 0, .int .i64 0, .int .i64 0, .int .i64 0, .int .i64 0, .int .i64 0, .int .i64 0, .int .i64 0, .int .i64 0, .int .i64 0, .int .i64 0, .int .i64 0, .int .i64 0, .int .i64 0, .int .i64 0, .int .i64 0, .int .i64 0] 107 (0, 0)) := hm4.blk (set_in (set_in hD3)) (fun f => f)
  have c4_19 := blk_cell hS4 (j := 19) rfl
  have c4_20 := blk_cell hS4 (j := 20) rfl
  have d4_17 := blk_cell hD4 (j := 17) rfl
  have d4_18 := blk_cell hD4 (j := 18) rfl
  have z4_17 := blk_free hD4 17
  have z4_18 := blk_free hD4 18
  have hr4_0 : w.heap.size < w4.heap.size := (Array.getElem?_eq_some_iff.1 hS4).1
  have hr4_1 : w.heap.size + 1 < w4.heap.size := (Array.getElem?_eq_some_iff.1 hR4).1
  have hr4_2 : w.heap.size + 1 + 1 < w4.heap.size := (Array.getElem?_eq_some_iff.1 hD4).1
  clear hm4 hS3 hR3 hD3 hM3 hr3_0 hr3_1 hr3_2 c3_17 c3_18 d3_15 z3_15 d3_16 z3_16
  go_wp2_with fail
  refine (toValue_any x.minHeight _).mono ?_
  rintro e w5 ⟨rfl, hm5⟩
  have hM5 : Mod (fun _ => False) w w5 := by (repeat (first | with_reducible exact Mod.refl _ _ | with_reducible refine Mod.drewN ?_ _ | with_reducible refine Mod.drew ?_ | with_reducible refine Mod.alloc ?_ _ | ((with_reducible refine Mod.setNew ?_ ?_ _ _ _); (rotate_left; omega)) | with_reducible refine Mod.setAt ?_ _ _ _ | with_reducible exact hm5 | with_reducible refine Mod.thenNone ?_ hm5 | with_reducible exact hM4 | with_reducible refine Mod.thenNone ?_ hM4 ))
  have hS5 := hm5.blk (set_far (set_far hS4 (by omega)) (by omega)) (fun f => f)
  have hR5 := hm5.blk (set_far (set_far hR4 (by omega)) (by omega)) (fun f => f)
  have hD5 : w5.heap[w.heap.size + 1 + 1]? = some (.cells #[.int .i64 x.dir, .int .i64 x.wrap, .int .i64 x.justify, .int .i64 x.items, .int .i64 x.self, .int .i64 x.content, .bool x.apart, .bool x.hidden, .int .i64 x.order, .int .i64 x.grow, .int .i64 x.shrink, .int .i64 x.basis.kind, .int .i64 x.basis.n, .int .i64 x.width.kind, .int .i64 x.width.n, .int .i64 x.height.kind, .int .i64 x.height.n, .int .i64 x.minWidth.kind, .int .i64 x.minWidth.n, .int .i64 0, .int .i64 0, .int .i64 0, .int .i64 0, .int .i64 0, .int .i64 0, .int .i64 0, .int .i64 0, .int .i64 0, .int .i64 0, .int .i64 0, .int .i64 0, .int .i64 0, .int .i64 0, .int .i64 0, .int .i64 0, .int .i64 0, .int .i64 0, .int .i64 0, .int .i64 0, .int .i64 0, .int .i64 0, .int .i64 0, .int .i64 0, .int .i64 0, .int .i64 0, .int .i64 0, .int .i64 0, .int .i64 0, .int .i64 0, .int .i64 0, .int .i64 0, .int .i64 0, .int .i64 0, .int .i64 0, .int .i64 0, .int .i64 0, .int .i64 0, .int .i64 0, .int .i64 0, .int .i64 0] 107 (0, 0)) := hm5.blk (set_in (set_in hD4)) (fun f => f)
  have c5_21 := blk_cell hS5 (j := 21) rfl
  have c5_22 := blk_cell hS5 (j := 22) rfl
  have d5_19 := blk_cell hD5 (j := 19) rfl
  have d5_20 := blk_cell hD5 (j := 20) rfl
  have z5_19 := blk_free hD5 19
  have z5_20 := blk_free hD5 20
  have hr5_0 : w.heap.size < w5.heap.size := (Array.getElem?_eq_some_iff.1 hS5).1
  have hr5_1 : w.heap.size + 1 < w5.heap.size := (Array.getElem?_eq_some_iff.1 hR5).1
  have hr5_2 : w.heap.size + 1 + 1 < w5.heap.size := (Array.getElem?_eq_some_iff.1 hD5).1
  clear hm5 hS4 hR4 hD4 hM4 hr4_0 hr4_1 hr4_2 c4_19 c4_20 d4_17 z4_17 d4_18 z4_18
  go_wp2_with fail
  refine (toValue_any x.maxWidth _).mono ?_
  rintro e w6 ⟨rfl, hm6⟩
  have hM6 : Mod (fun _ => False) w w6 := by (repeat (first | with_reducible exact Mod.refl _ _ | with_reducible refine Mod.drewN ?_ _ | with_reducible refine Mod.drew ?_ | with_reducible refine Mod.alloc ?_ _ | ((with_reducible refine Mod.setNew ?_ ?_ _ _ _); (rotate_left; omega)) | with_reducible refine Mod.setAt ?_ _ _ _ | with_reducible exact hm6 | with_reducible refine Mod.thenNone ?_ hm6 | with_reducible exact hM5 | with_reducible refine Mod.thenNone ?_ hM5 ))
  have hS6 := hm6.blk (set_far (set_far hS5 (by omega)) (by omega)) (fun f => f)
  have hR6 := hm6.blk (set_far (set_far hR5 (by omega)) (by omega)) (fun f => f)
  have hD6 : w6.heap[w.heap.size + 1 + 1]? = some (.cells #[.int .i64 x.dir, .int .i64 x.wrap, .int .i64 x.justify, .int .i64 x.items, .int .i64 x.self, .int .i64 x.content, .bool x.apart, .bool x.hidden, .int .i64 x.order, .int .i64 x.grow, .int .i64 x.shrink, .int .i64 x.basis.kind, .int .i64 x.basis.n, .int .i64 x.width.kind, .int .i64 x.width.n, .int .i64 x.height.kind, .int .i64 x.height.n, .int .i64 x.minWidth.kind, .int .i64 x.minWidth.n, .int .i64 x.minHeight.kind, .int .i64 x.minHeight.n, .int .i64 0, .int .i64 0, .int .i64 0, .int .i64 0, .int .i64 0, .int .i64 0, .int .i64 0, .int .i64 0, .int .i64 0, .int .i64 0, .int .i64 0, .int .i64 0, .int .i64 0, .int .i64 0, .int .i64 0, .int .i64 0, .int .i64 0, .int .i64 0, .int .i64 0, .int .i64 0, .int .i64 0, .int .i64 0, .int .i64 0, .int .i64 0, .int .i64 0, .int .i64 0, .int .i64 0, .int .i64 0, .int .i64 0, .int .i64 0, .int .i64 0, .int .i64 0, .int .i64 0, .int .i64 0, .int .i64 0, .int .i64 0, .int .i64 0, .int .i64 0, .int .i64 0] 107 (0, 0)) := hm6.blk (set_in (set_in hD5)) (fun f => f)
  have c6_23 := blk_cell hS6 (j := 23) rfl
  have c6_24 := blk_cell hS6 (j := 24) rfl
  have d6_21 := blk_cell hD6 (j := 21) rfl
  have d6_22 := blk_cell hD6 (j := 22) rfl
  have z6_21 := blk_free hD6 21
  have z6_22 := blk_free hD6 22
  have hr6_0 : w.heap.size < w6.heap.size := (Array.getElem?_eq_some_iff.1 hS6).1
  have hr6_1 : w.heap.size + 1 < w6.heap.size := (Array.getElem?_eq_some_iff.1 hR6).1
  have hr6_2 : w.heap.size + 1 + 1 < w6.heap.size := (Array.getElem?_eq_some_iff.1 hD6).1
  clear hm6 hS5 hR5 hD5 hM5 hr5_0 hr5_1 hr5_2 c5_21 c5_22 d5_19 z5_19 d5_20 z5_20
  go_wp2_with fail
  refine (toValue_any x.maxHeight _).mono ?_
  rintro e w7 ⟨rfl, hm7⟩
  have hM7 : Mod (fun _ => False) w w7 := by (repeat (first | with_reducible exact Mod.refl _ _ | with_reducible refine Mod.drewN ?_ _ | with_reducible refine Mod.drew ?_ | with_reducible refine Mod.alloc ?_ _ | ((with_reducible refine Mod.setNew ?_ ?_ _ _ _); (rotate_left; omega)) | with_reducible refine Mod.setAt ?_ _ _ _ | with_reducible exact hm7 | with_reducible refine Mod.thenNone ?_ hm7 | with_reducible exact hM6 | with_reducible refine Mod.thenNone ?_ hM6 ))
  have hS7 := hm7.blk (set_far (set_far hS6 (by omega)) (by omega)) (fun f => f)
  have hR7 := hm7.blk (set_far (set_far hR6 (by omega)) (by omega)) (fun f => f)
  have hD7 : w7.heap[w.heap.size + 1 + 1]? = some (.cells #[.int .i64 x.dir, .int .i64 x.wrap, .int .i64 x.justify, .int .i64 x.items, .int .i64 x.self, .int .i64 x.content, .bool x.apart, .bool x.hidden, .int .i64 x.order, .int .i64 x.grow, .int .i64 x.shrink, .int .i64 x.basis.kind, .int .i64 x.basis.n, .int .i64 x.width.kind, .int .i64 x.width.n, .int .i64 x.height.kind, .int .i64 x.height.n, .int .i64 x.minWidth.kind, .int .i64 x.minWidth.n, .int .i64 x.minHeight.kind, .int .i64 x.minHeight.n, .int .i64 x.maxWidth.kind, .int .i64 x.maxWidth.n, .int .i64 0, .int .i64 0, .int .i64 0, .int .i64 0, .int .i64 0, .int .i64 0, .int .i64 0, .int .i64 0, .int .i64 0, .int .i64 0, .int .i64 0, .int .i64 0, .int .i64 0, .int .i64 0, .int .i64 0, .int .i64 0, .int .i64 0, .int .i64 0, .int .i64 0, .int .i64 0, .int .i64 0, .int .i64 0, .int .i64 0, .int .i64 0, .int .i64 0, .int .i64 0, .int .i64 0, .int .i64 0, .int .i64 0, .int .i64 0, .int .i64 0, .int .i64 0, .int .i64 0, .int .i64 0, .int .i64 0, .int .i64 0, .int .i64 0] 107 (0, 0)) := hm7.blk (set_in (set_in hD6)) (fun f => f)
  have c7_25 := blk_cell hS7 (j := 25) rfl
  have c7_26 := blk_cell hS7 (j := 26) rfl
  have c7_27 := blk_cell hS7 (j := 27) rfl
  have c7_28 := blk_cell hS7 (j := 28) rfl
  have c7_29 := blk_cell hS7 (j := 29) rfl
  have c7_30 := blk_cell hS7 (j := 30) rfl
  have c7_31 := blk_cell hS7 (j := 31) rfl
  have c7_32 := blk_cell hS7 (j := 32) rfl
  have c7_33 := blk_cell hS7 (j := 33) rfl
  have c7_34 := blk_cell hS7 (j := 34) rfl
  have c7_35 := blk_cell hS7 (j := 35) rfl
  have c7_36 := blk_cell hS7 (j := 36) rfl
  have c7_37 := blk_cell hS7 (j := 37) rfl
  have d7_23 := blk_cell hD7 (j := 23) rfl
  have d7_24 := blk_cell hD7 (j := 24) rfl
  have d7_25 := blk_cell hD7 (j := 25) rfl
  have z7_23 := blk_free hD7 23
  have z7_24 := blk_free hD7 24
  have z7_25 := blk_free hD7 25
  have hr7_0 : w.heap.size < w7.heap.size := (Array.getElem?_eq_some_iff.1 hS7).1
  have hr7_1 : w.heap.size + 1 < w7.heap.size := (Array.getElem?_eq_some_iff.1 hR7).1
  have hr7_2 : w.heap.size + 1 + 1 < w7.heap.size := (Array.getElem?_eq_some_iff.1 hD7).1
  clear hm7 hS6 hR6 hD6 hM6 hr6_0 hr6_1 hr6_2 c6_23 c6_24 d6_21 z6_21 d6_22 z6_22
  go_wp2_with fail
  refine (toSides_any x.margin _).mono ?_
  rintro e w8 ⟨rfl, hm8⟩
  have hM8 : Mod (fun _ => False) w w8 := by (repeat (first | with_reducible exact Mod.refl _ _ | with_reducible refine Mod.drewN ?_ _ | with_reducible refine Mod.drew ?_ | with_reducible refine Mod.alloc ?_ _ | ((with_reducible refine Mod.setNew ?_ ?_ _ _ _); (rotate_left; omega)) | with_reducible refine Mod.setAt ?_ _ _ _ | with_reducible exact hm8 | with_reducible refine Mod.thenNone ?_ hm8 | with_reducible exact hM7 | with_reducible refine Mod.thenNone ?_ hM7 ))
  have hS8 := hm8.blk (set_far (set_far (set_far hS7 (by omega)) (by omega)) (by omega)) (fun f => f)
  have hR8 := hm8.blk (set_far (set_far (set_far hR7 (by omega)) (by omega)) (by omega)) (fun f => f)
  have hD8 : w8.heap[w.heap.size + 1 + 1]? = some (.cells #[.int .i64 x.dir, .int .i64 x.wrap, .int .i64 x.justify, .int .i64 x.items, .int .i64 x.self, .int .i64 x.content, .bool x.apart, .bool x.hidden, .int .i64 x.order, .int .i64 x.grow, .int .i64 x.shrink, .int .i64 x.basis.kind, .int .i64 x.basis.n, .int .i64 x.width.kind, .int .i64 x.width.n, .int .i64 x.height.kind, .int .i64 x.height.n, .int .i64 x.minWidth.kind, .int .i64 x.minWidth.n, .int .i64 x.minHeight.kind, .int .i64 x.minHeight.n, .int .i64 x.maxWidth.kind, .int .i64 x.maxWidth.n, .int .i64 x.maxHeight.kind, .int .i64 x.maxHeight.n, .int .i64 x.ratio, .int .i64 0, .int .i64 0, .int .i64 0, .int .i64 0, .int .i64 0, .int .i64 0, .int .i64 0, .int .i64 0, .int .i64 0, .int .i64 0, .int .i64 0, .int .i64 0, .int .i64 0, .int .i64 0, .int .i64 0, .int .i64 0, .int .i64 0, .int .i64 0, .int .i64 0, .int .i64 0, .int .i64 0, .int .i64 0, .int .i64 0, .int .i64 0, .int .i64 0, .int .i64 0, .int .i64 0, .int .i64 0, .int .i64 0, .int .i64 0, .int .i64 0, .int .i64 0, .int .i64 0, .int .i64 0] 107 (0, 0)) := hm8.blk (set_in (set_in (set_in hD7))) (fun f => f)
  have c8_38 := blk_cell hS8 (j := 38) rfl
  have c8_39 := blk_cell hS8 (j := 39) rfl
  have c8_40 := blk_cell hS8 (j := 40) rfl
  have c8_41 := blk_cell hS8 (j := 41) rfl
  have c8_42 := blk_cell hS8 (j := 42) rfl
  have c8_43 := blk_cell hS8 (j := 43) rfl
  have c8_44 := blk_cell hS8 (j := 44) rfl
  have c8_45 := blk_cell hS8 (j := 45) rfl
  have c8_46 := blk_cell hS8 (j := 46) rfl
  have c8_47 := blk_cell hS8 (j := 47) rfl
  have c8_48 := blk_cell hS8 (j := 48) rfl
  have c8_49 := blk_cell hS8 (j := 49) rfl
  have d8_26 := blk_cell hD8 (j := 26) rfl
  have d8_27 := blk_cell hD8 (j := 27) rfl
  have d8_28 := blk_cell hD8 (j := 28) rfl
  have d8_29 := blk_cell hD8 (j := 29) rfl
  have d8_30 := blk_cell hD8 (j := 30) rfl
  have d8_31 := blk_cell hD8 (j := 31) rfl
  have d8_32 := blk_cell hD8 (j := 32) rfl
  have d8_33 := blk_cell hD8 (j := 33) rfl
  have d8_34 := blk_cell hD8 (j := 34) rfl
  have d8_35 := blk_cell hD8 (j := 35) rfl
  have d8_36 := blk_cell hD8 (j := 36) rfl
  have d8_37 := blk_cell hD8 (j := 37) rfl
  have z8_26 := blk_free hD8 26
  have z8_27 := blk_free hD8 27
  have z8_28 := blk_free hD8 28
  have z8_29 := blk_free hD8 29
  have z8_30 := blk_free hD8 30
  have z8_31 := blk_free hD8 31
  have z8_32 := blk_free hD8 32
  have z8_33 := blk_free hD8 33
  have z8_34 := blk_free hD8 34
  have z8_35 := blk_free hD8 35
  have z8_36 := blk_free hD8 36
  have z8_37 := blk_free hD8 37
  have hr8_0 : w.heap.size < w8.heap.size := (Array.getElem?_eq_some_iff.1 hS8).1
  have hr8_1 : w.heap.size + 1 < w8.heap.size := (Array.getElem?_eq_some_iff.1 hR8).1
  have hr8_2 : w.heap.size + 1 + 1 < w8.heap.size := (Array.getElem?_eq_some_iff.1 hD8).1
  clear hm8 hS7 hR7 hD7 hM7 hr7_0 hr7_1 hr7_2 c7_25 c7_26 c7_27 c7_28 c7_29 c7_30 c7_31 c7_32 c7_33 c7_34 c7_35 c7_36 c7_37 d7_23 z7_23 d7_24 z7_24 d7_25 z7_25
  go_wp2_with fail
  refine (toSides_any x.inset _).mono ?_
  rintro e w9 ⟨rfl, hm9⟩
  have hM9 : Mod (fun _ => False) w w9 := by (repeat (first | with_reducible exact Mod.refl _ _ | with_reducible refine Mod.drewN ?_ _ | with_reducible refine Mod.drew ?_ | with_reducible refine Mod.alloc ?_ _ | ((with_reducible refine Mod.setNew ?_ ?_ _ _ _); (rotate_left; omega)) | with_reducible refine Mod.setAt ?_ _ _ _ | with_reducible exact hm9 | with_reducible refine Mod.thenNone ?_ hm9 | with_reducible exact hM8 | with_reducible refine Mod.thenNone ?_ hM8 ))
  have hS9 := hm9.blk (set_far (set_far (set_far (set_far (set_far (set_far (set_far (set_far (set_far (set_far (set_far (set_far hS8 (by omega)) (by omega)) (by omega)) (by omega)) (by omega)) (by omega)) (by omega)) (by omega)) (by omega)) (by omega)) (by omega)) (by omega)) (fun f => f)
  have hR9 := hm9.blk (set_far (set_far (set_far (set_far (set_far (set_far (set_far (set_far (set_far (set_far (set_far (set_far hR8 (by omega)) (by omega)) (by omega)) (by omega)) (by omega)) (by omega)) (by omega)) (by omega)) (by omega)) (by omega)) (by omega)) (by omega)) (fun f => f)
  have hD9 : w9.heap[w.heap.size + 1 + 1]? = some (.cells #[.int .i64 x.dir, .int .i64 x.wrap, .int .i64 x.justify, .int .i64 x.items, .int .i64 x.self, .int .i64 x.content, .bool x.apart, .bool x.hidden, .int .i64 x.order, .int .i64 x.grow, .int .i64 x.shrink, .int .i64 x.basis.kind, .int .i64 x.basis.n, .int .i64 x.width.kind, .int .i64 x.width.n, .int .i64 x.height.kind, .int .i64 x.height.n, .int .i64 x.minWidth.kind, .int .i64 x.minWidth.n, .int .i64 x.minHeight.kind, .int .i64 x.minHeight.n, .int .i64 x.maxWidth.kind, .int .i64 x.maxWidth.n, .int .i64 x.maxHeight.kind, .int .i64 x.maxHeight.n, .int .i64 x.ratio, .int .i64 x.margin.left.kind, .int .i64 x.margin.left.n, .int .i64 x.margin.top.kind, .int .i64 x.margin.top.n, .int .i64 x.margin.right.kind, .int .i64 x.margin.right.n, .int .i64 x.margin.bottom.kind, .int .i64 x.margin.bottom.n, .int .i64 x.margin.start.kind, .int .i64 x.margin.start.n, .int .i64 x.margin.stop.kind, .int .i64 x.margin.stop.n, .int .i64 0, .int .i64 0, .int .i64 0, .int .i64 0, .int .i64 0, .int .i64 0, .int .i64 0, .int .i64 0, .int .i64 0, .int .i64 0, .int .i64 0, .int .i64 0, .int .i64 0, .int .i64 0, .int .i64 0, .int .i64 0, .int .i64 0, .int .i64 0, .int .i64 0, .int .i64 0, .int .i64 0, .int .i64 0] 107 (0, 0)) := hm9.blk (set_in (set_in (set_in (set_in (set_in (set_in (set_in (set_in (set_in (set_in (set_in (set_in hD8)))))))))))) (fun f => f)
  have c9_50 := blk_cell hS9 (j := 50) rfl
  have c9_51 := blk_cell hS9 (j := 51) rfl
  have c9_52 := blk_cell hS9 (j := 52) rfl
  have c9_53 := blk_cell hS9 (j := 53) rfl
  have d9_38 := blk_cell hD9 (j := 38) rfl
  have d9_39 := blk_cell hD9 (j := 39) rfl
  have d9_40 := blk_cell hD9 (j := 40) rfl
  have d9_41 := blk_cell hD9 (j := 41) rfl
  have d9_42 := blk_cell hD9 (j := 42) rfl
  have d9_43 := blk_cell hD9 (j := 43) rfl
  have d9_44 := blk_cell hD9 (j := 44) rfl
  have d9_45 := blk_cell hD9 (j := 45) rfl
  have d9_46 := blk_cell hD9 (j := 46) rfl
  have d9_47 := blk_cell hD9 (j := 47) rfl
  have d9_48 := blk_cell hD9 (j := 48) rfl
  have d9_49 := blk_cell hD9 (j := 49) rfl
  have z9_38 := blk_free hD9 38
  have z9_39 := blk_free hD9 39
  have z9_40 := blk_free hD9 40
  have z9_41 := blk_free hD9 41
  have z9_42 := blk_free hD9 42
  have z9_43 := blk_free hD9 43
  have z9_44 := blk_free hD9 44
  have z9_45 := blk_free hD9 45
  have z9_46 := blk_free hD9 46
  have z9_47 := blk_free hD9 47
  have z9_48 := blk_free hD9 48
  have z9_49 := blk_free hD9 49
  have hr9_0 : w.heap.size < w9.heap.size := (Array.getElem?_eq_some_iff.1 hS9).1
  have hr9_1 : w.heap.size + 1 < w9.heap.size := (Array.getElem?_eq_some_iff.1 hR9).1
  have hr9_2 : w.heap.size + 1 + 1 < w9.heap.size := (Array.getElem?_eq_some_iff.1 hD9).1
  clear hm9 hS8 hR8 hD8 hM8 hr8_0 hr8_1 hr8_2 c8_38 c8_39 c8_40 c8_41 c8_42 c8_43 c8_44 c8_45 c8_46 c8_47 c8_48 c8_49 d8_26 z8_26 d8_27 z8_27 d8_28 z8_28 d8_29 z8_29 d8_30 z8_30 d8_31 z8_31 d8_32 z8_32 d8_33 z8_33 d8_34 z8_34 d8_35 z8_35 d8_36 z8_36 d8_37 z8_37
  go_wp2_with fail
  refine (toEdges_any x.pad _).mono ?_
  rintro e w10 ⟨rfl, hm10⟩
  have hM10 : Mod (fun _ => False) w w10 := by (repeat (first | with_reducible exact Mod.refl _ _ | with_reducible refine Mod.drewN ?_ _ | with_reducible refine Mod.drew ?_ | with_reducible refine Mod.alloc ?_ _ | ((with_reducible refine Mod.setNew ?_ ?_ _ _ _); (rotate_left; omega)) | with_reducible refine Mod.setAt ?_ _ _ _ | with_reducible exact hm10 | with_reducible refine Mod.thenNone ?_ hm10 | with_reducible exact hM9 | with_reducible refine Mod.thenNone ?_ hM9 ))
  have hS10 := hm10.blk (set_far (set_far (set_far (set_far (set_far (set_far (set_far (set_far (set_far (set_far (set_far (set_far hS9 (by omega)) (by omega)) (by omega)) (by omega)) (by omega)) (by omega)) (by omega)) (by omega)) (by omega)) (by omega)) (by omega)) (by omega)) (fun f => f)
  have hR10 := hm10.blk (set_far (set_far (set_far (set_far (set_far (set_far (set_far (set_far (set_far (set_far (set_far (set_far hR9 (by omega)) (by omega)) (by omega)) (by omega)) (by omega)) (by omega)) (by omega)) (by omega)) (by omega)) (by omega)) (by omega)) (by omega)) (fun f => f)
  have hD10 : w10.heap[w.heap.size + 1 + 1]? = some (.cells #[.int .i64 x.dir, .int .i64 x.wrap, .int .i64 x.justify, .int .i64 x.items, .int .i64 x.self, .int .i64 x.content, .bool x.apart, .bool x.hidden, .int .i64 x.order, .int .i64 x.grow, .int .i64 x.shrink, .int .i64 x.basis.kind, .int .i64 x.basis.n, .int .i64 x.width.kind, .int .i64 x.width.n, .int .i64 x.height.kind, .int .i64 x.height.n, .int .i64 x.minWidth.kind, .int .i64 x.minWidth.n, .int .i64 x.minHeight.kind, .int .i64 x.minHeight.n, .int .i64 x.maxWidth.kind, .int .i64 x.maxWidth.n, .int .i64 x.maxHeight.kind, .int .i64 x.maxHeight.n, .int .i64 x.ratio, .int .i64 x.margin.left.kind, .int .i64 x.margin.left.n, .int .i64 x.margin.top.kind, .int .i64 x.margin.top.n, .int .i64 x.margin.right.kind, .int .i64 x.margin.right.n, .int .i64 x.margin.bottom.kind, .int .i64 x.margin.bottom.n, .int .i64 x.margin.start.kind, .int .i64 x.margin.start.n, .int .i64 x.margin.stop.kind, .int .i64 x.margin.stop.n, .int .i64 x.inset.left.kind, .int .i64 x.inset.left.n, .int .i64 x.inset.top.kind, .int .i64 x.inset.top.n, .int .i64 x.inset.right.kind, .int .i64 x.inset.right.n, .int .i64 x.inset.bottom.kind, .int .i64 x.inset.bottom.n, .int .i64 x.inset.start.kind, .int .i64 x.inset.start.n, .int .i64 x.inset.stop.kind, .int .i64 x.inset.stop.n, .int .i64 0, .int .i64 0, .int .i64 0, .int .i64 0, .int .i64 0, .int .i64 0, .int .i64 0, .int .i64 0, .int .i64 0, .int .i64 0] 107 (0, 0)) := hm10.blk (set_in (set_in (set_in (set_in (set_in (set_in (set_in (set_in (set_in (set_in (set_in (set_in hD9)))))))))))) (fun f => f)
  have c10_54 := blk_cell hS10 (j := 54) rfl
  have c10_55 := blk_cell hS10 (j := 55) rfl
  have c10_56 := blk_cell hS10 (j := 56) rfl
  have c10_57 := blk_cell hS10 (j := 57) rfl
  have d10_50 := blk_cell hD10 (j := 50) rfl
  have d10_51 := blk_cell hD10 (j := 51) rfl
  have d10_52 := blk_cell hD10 (j := 52) rfl
  have d10_53 := blk_cell hD10 (j := 53) rfl
  have z10_50 := blk_free hD10 50
  have z10_51 := blk_free hD10 51
  have z10_52 := blk_free hD10 52
  have z10_53 := blk_free hD10 53
  have hr10_0 : w.heap.size < w10.heap.size := (Array.getElem?_eq_some_iff.1 hS10).1
  have hr10_1 : w.heap.size + 1 < w10.heap.size := (Array.getElem?_eq_some_iff.1 hR10).1
  have hr10_2 : w.heap.size + 1 + 1 < w10.heap.size := (Array.getElem?_eq_some_iff.1 hD10).1
  clear hm10 hS9 hR9 hD9 hM9 hr9_0 hr9_1 hr9_2 c9_50 c9_51 c9_52 c9_53 d9_38 z9_38 d9_39 z9_39 d9_40 z9_40 d9_41 z9_41 d9_42 z9_42 d9_43 z9_43 d9_44 z9_44 d9_45 z9_45 d9_46 z9_46 d9_47 z9_47 d9_48 z9_48 d9_49 z9_49
  go_wp2_with fail
  refine (toEdges_any x.border _).mono ?_
  rintro e w11 ⟨rfl, hm11⟩
  have hM11 : Mod (fun _ => False) w w11 := by (repeat (first | with_reducible exact Mod.refl _ _ | with_reducible refine Mod.drewN ?_ _ | with_reducible refine Mod.drew ?_ | with_reducible refine Mod.alloc ?_ _ | ((with_reducible refine Mod.setNew ?_ ?_ _ _ _); (rotate_left; omega)) | with_reducible refine Mod.setAt ?_ _ _ _ | with_reducible exact hm11 | with_reducible refine Mod.thenNone ?_ hm11 | with_reducible exact hM10 | with_reducible refine Mod.thenNone ?_ hM10 ))
  have hS11 := hm11.blk (set_far (set_far (set_far (set_far hS10 (by omega)) (by omega)) (by omega)) (by omega)) (fun f => f)
  have hR11 := hm11.blk (set_far (set_far (set_far (set_far hR10 (by omega)) (by omega)) (by omega)) (by omega)) (fun f => f)
  have hD11 : w11.heap[w.heap.size + 1 + 1]? = some (.cells #[.int .i64 x.dir, .int .i64 x.wrap, .int .i64 x.justify, .int .i64 x.items, .int .i64 x.self, .int .i64 x.content, .bool x.apart, .bool x.hidden, .int .i64 x.order, .int .i64 x.grow, .int .i64 x.shrink, .int .i64 x.basis.kind, .int .i64 x.basis.n, .int .i64 x.width.kind, .int .i64 x.width.n, .int .i64 x.height.kind, .int .i64 x.height.n, .int .i64 x.minWidth.kind, .int .i64 x.minWidth.n, .int .i64 x.minHeight.kind, .int .i64 x.minHeight.n, .int .i64 x.maxWidth.kind, .int .i64 x.maxWidth.n, .int .i64 x.maxHeight.kind, .int .i64 x.maxHeight.n, .int .i64 x.ratio, .int .i64 x.margin.left.kind, .int .i64 x.margin.left.n, .int .i64 x.margin.top.kind, .int .i64 x.margin.top.n, .int .i64 x.margin.right.kind, .int .i64 x.margin.right.n, .int .i64 x.margin.bottom.kind, .int .i64 x.margin.bottom.n, .int .i64 x.margin.start.kind, .int .i64 x.margin.start.n, .int .i64 x.margin.stop.kind, .int .i64 x.margin.stop.n, .int .i64 x.inset.left.kind, .int .i64 x.inset.left.n, .int .i64 x.inset.top.kind, .int .i64 x.inset.top.n, .int .i64 x.inset.right.kind, .int .i64 x.inset.right.n, .int .i64 x.inset.bottom.kind, .int .i64 x.inset.bottom.n, .int .i64 x.inset.start.kind, .int .i64 x.inset.start.n, .int .i64 x.inset.stop.kind, .int .i64 x.inset.stop.n, .int .i64 x.pad.left, .int .i64 x.pad.top, .int .i64 x.pad.right, .int .i64 x.pad.bottom, .int .i64 0, .int .i64 0, .int .i64 0, .int .i64 0, .int .i64 0, .int .i64 0] 107 (0, 0)) := hm11.blk (set_in (set_in (set_in (set_in hD10)))) (fun f => f)
  have c11_58 := blk_cell hS11 (j := 58) rfl
  have c11_59 := blk_cell hS11 (j := 59) rfl
  have d11_54 := blk_cell hD11 (j := 54) rfl
  have d11_55 := blk_cell hD11 (j := 55) rfl
  have d11_56 := blk_cell hD11 (j := 56) rfl
  have d11_57 := blk_cell hD11 (j := 57) rfl
  have d11_58 := blk_cell hD11 (j := 58) rfl
  have d11_59 := blk_cell hD11 (j := 59) rfl
  have z11_54 := blk_free hD11 54
  have z11_55 := blk_free hD11 55
  have z11_56 := blk_free hD11 56
  have z11_57 := blk_free hD11 57
  have z11_58 := blk_free hD11 58
  have z11_59 := blk_free hD11 59
  have hY : w11.heap[w.heap.size + 1 + 1]? = some (.cells (Style.cells { x with border := ⟨0, 0, 0, 0⟩, rowGap := 0, colGap := 0 }).toArray 107 (0, 0)) := hD11
  obtain ⟨hq0, hq1, _⟩ := row_blk hY 0 60 (by rw [Style.len]; omega)
  obtain ⟨hq2, _, hq3⟩ := row_blk (l := Style.cells default) hR11 0 60 (by rw [Style.len]; omega)
  rw [List.drop_zero, List.take_of_length_le (by rw [Style.len]; omega)] at hq1
  clear hY
  have hr11_0 : w.heap.size < w11.heap.size := (Array.getElem?_eq_some_iff.1 hS11).1
  have hr11_1 : w.heap.size + 1 < w11.heap.size := (Array.getElem?_eq_some_iff.1 hR11).1
  have hr11_2 : w.heap.size + 1 + 1 < w11.heap.size := (Array.getElem?_eq_some_iff.1 hD11).1
  clear hm11 hS10 hR10 hD10 hM10 hr10_0 hr10_1 hr10_2 c10_54 c10_55 c10_56 c10_57 d10_50 z10_50 d10_51 z10_51 d10_52 z10_52 d10_53 z10_53
  clear hS11 hR11 hD11
  dsimp only
  repeat (go_step)
  refine bodyPost_ret (v := .agg (Style.cells x).toArray) ?_ ?_ ?_
  · refine results_row (r := Style.cells x) (b := w.heap.size + 1) Try.results70 ?_ Try.underlying107 rfl (by kernel_rfl) ?_
    · rfl
    · refine range_setCells (r := Style.cells x) ?_
      simp only [hasRow_setCell, Style.len, hq2]
  · rfl
  · refine ⟨rfl, ?_⟩
    refine Mod.setCellsNew ?_ (by omega) _ _
    iterate 6 refine Mod.setNew ?_ (by omega) _ _ _
    exact hM11

end Go.Proofs.Ytkkjjhooamlljaa
namespace Go.Proofs.Ytkkjjhooamlljaa
open Go.RowKit

set_option maxRecDepth 100000 in
set_option maxHeartbeats 8000000 in
theorem eqStyle_same (x : Style) (w : World) : Calls Try.prog 75 #[.agg #[.int .i64 x.dir, .int .i64 x.wrap, .int .i64 x.justify, .int .i64 x.items, .int .i64 x.self, .int .i64 x.content, .bool x.apart, .bool x.hidden, .int .i64 x.order, .int .i64 x.grow, .int .i64 x.shrink, .int .i64 x.basis.kind, .int .i64 x.basis.n, .int .i64 x.width.kind, .int .i64 x.width.n, .int .i64 x.height.kind, .int .i64 x.height.n, .int .i64 x.minWidth.kind, .int .i64 x.minWidth.n, .int .i64 x.minHeight.kind, .int .i64 x.minHeight.n, .int .i64 x.maxWidth.kind, .int .i64 x.maxWidth.n, .int .i64 x.maxHeight.kind, .int .i64 x.maxHeight.n, .int .i64 x.ratio, .int .i64 x.margin.left.kind, .int .i64 x.margin.left.n, .int .i64 x.margin.top.kind, .int .i64 x.margin.top.n, .int .i64 x.margin.right.kind, .int .i64 x.margin.right.n, .int .i64 x.margin.bottom.kind, .int .i64 x.margin.bottom.n, .int .i64 x.margin.start.kind, .int .i64 x.margin.start.n, .int .i64 x.margin.stop.kind, .int .i64 x.margin.stop.n, .int .i64 x.inset.left.kind, .int .i64 x.inset.left.n, .int .i64 x.inset.top.kind, .int .i64 x.inset.top.n, .int .i64 x.inset.right.kind, .int .i64 x.inset.right.n, .int .i64 x.inset.bottom.kind, .int .i64 x.inset.bottom.n, .int .i64 x.inset.start.kind, .int .i64 x.inset.start.n, .int .i64 x.inset.stop.kind, .int .i64 x.inset.stop.n, .int .i64 x.pad.left, .int .i64 x.pad.top, .int .i64 x.pad.right, .int .i64 x.pad.bottom, .int .i64 x.border.left, .int .i64 x.border.top, .int .i64 x.border.right, .int .i64 x.border.bottom, .int .i64 x.rowGap, .int .i64 x.colGap], .agg #[.int .i64 x.dir, .int .i64 x.wrap, .int .i64 x.justify, .int .i64 x.items, .int .i64 x.self, .int .i64 x.content, .bool x.apart, .bool x.hidden, .int .i64 x.order, .int .i64 x.grow, .int .i64 x.shrink, .int .i64 x.basis.kind, .int .i64 x.basis.n, .int .i64 x.width.kind, .int .i64 x.width.n, .int .i64 x.height.kind, .int .i64 x.height.n, .int .i64 x.minWidth.kind, .int .i64 x.minWidth.n, .int .i64 x.minHeight.kind, .int .i64 x.minHeight.n, .int .i64 x.maxWidth.kind, .int .i64 x.maxWidth.n, .int .i64 x.maxHeight.kind, .int .i64 x.maxHeight.n, .int .i64 x.ratio, .int .i64 x.margin.left.kind, .int .i64 x.margin.left.n, .int .i64 x.margin.top.kind, .int .i64 x.margin.top.n, .int .i64 x.margin.right.kind, .int .i64 x.margin.right.n, .int .i64 x.margin.bottom.kind, .int .i64 x.margin.bottom.n, .int .i64 x.margin.start.kind, .int .i64 x.margin.start.n, .int .i64 x.margin.stop.kind, .int .i64 x.margin.stop.n, .int .i64 x.inset.left.kind, .int .i64 x.inset.left.n, .int .i64 x.inset.top.kind, .int .i64 x.inset.top.n, .int .i64 x.inset.right.kind, .int .i64 x.inset.right.n, .int .i64 x.inset.bottom.kind, .int .i64 x.inset.bottom.n, .int .i64 x.inset.start.kind, .int .i64 x.inset.start.n, .int .i64 x.inset.stop.kind, .int .i64 x.inset.stop.n, .int .i64 x.pad.left, .int .i64 x.pad.top, .int .i64 x.pad.right, .int .i64 x.pad.bottom, .int .i64 x.border.left, .int .i64 x.border.top, .int .i64 x.border.right, .int .i64 x.border.bottom, .int .i64 x.rowGap, .int .i64 x.colGap]] w fun e w' => e = .returned (.bool true) ∧ Mod (fun _ => False) w w' := by
  go_enter Try.func75, Try.ntmps75
  go_wp2_with fail
  refine (eqValue_any x.basis x.basis _).mono ?_
  rintro e w1 ⟨rfl, hm1⟩
  rw [decide_eq_true rfl]
  have hM1 : Mod (fun _ => False) w w1 := by (repeat (first | with_reducible exact Mod.refl _ _ | with_reducible refine Mod.drewN ?_ _ | with_reducible refine Mod.drew ?_ | with_reducible refine Mod.alloc ?_ _ | ((with_reducible refine Mod.setNew ?_ ?_ _ _ _); (rotate_left; omega)) | with_reducible refine Mod.setAt ?_ _ _ _ | with_reducible exact hm1 | with_reducible refine Mod.thenNone ?_ hm1 ))
  have hA1 := hm1.blk (al2a _ _ _) (fun f => f)
  have hB1 := hm1.blk (al2b _ _ _) (fun f => f)
  have c1_13 := blk_cell hA1 (j := 13) rfl
  have d1_13 := blk_cell hB1 (j := 13) rfl
  have c1_14 := blk_cell hA1 (j := 14) rfl
  have d1_14 := blk_cell hB1 (j := 14) rfl
  have hr1_0 : w.heap.size < w1.heap.size := (Array.getElem?_eq_some_iff.1 hA1).1
  have hr1_1 : w.heap.size + 1 < w1.heap.size := (Array.getElem?_eq_some_iff.1 hB1).1
  clear hm1
  go_wp2_with fail
  refine (eqValue_any x.width x.width _).mono ?_
  rintro e w2 ⟨rfl, hm2⟩
  rw [decide_eq_true rfl]
  have hM2 : Mod (fun _ => False) w w2 := hM1.thenNone hm2
  have hA2 := hm2.blk hA1 (fun f => f)
  have hB2 := hm2.blk hB1 (fun f => f)
  have c2_15 := blk_cell hA2 (j := 15) rfl
  have d2_15 := blk_cell hB2 (j := 15) rfl
  have c2_16 := blk_cell hA2 (j := 16) rfl
  have d2_16 := blk_cell hB2 (j := 16) rfl
  have hr2_0 : w.heap.size < w2.heap.size := (Array.getElem?_eq_some_iff.1 hA2).1
  have hr2_1 : w.heap.size + 1 < w2.heap.size := (Array.getElem?_eq_some_iff.1 hB2).1
  clear hm2 hA1 hB1 hM1 hr1_0 hr1_1 c1_13 d1_13 c1_14 d1_14
  go_wp2_with fail
  refine (eqValue_any x.height x.height _).mono ?_
  rintro e w3 ⟨rfl, hm3⟩
  rw [decide_eq_true rfl]
  have hM3 : Mod (fun _ => False) w w3 := hM2.thenNone hm3
  have hA3 := hm3.blk hA2 (fun f => f)
  have hB3 := hm3.blk hB2 (fun f => f)
  have c3_17 := blk_cell hA3 (j := 17) rfl
  have d3_17 := blk_cell hB3 (j := 17) rfl
  have c3_18 := blk_cell hA3 (j := 18) rfl
  have d3_18 := blk_cell hB3 (j := 18) rfl
  have hr3_0 : w.heap.size < w3.heap.size := (Array.getElem?_eq_some_iff.1 hA3).1
  have hr3_1 : w.heap.size + 1 < w3.heap.size := (Array.getElem?_eq_some_iff.1 hB3).1
  clear hm3 hA2 hB2 hM2 hr2_0 hr2_1 c2_15 d2_15 c2_16 d2_16
  go_wp2_with fail
  refine (eqValue_any x.minWidth x.minWidth _).mono ?_
  rintro e w4 ⟨rfl, hm4⟩
  rw [decide_eq_true rfl]
  have hM4 : Mod (fun _ => False) w w4 := hM3.thenNone hm4
  have hA4 := hm4.blk hA3 (fun f => f)
  have hB4 := hm4.blk hB3 (fun f => f)
  have c4_19 := blk_cell hA4 (j := 19) rfl
  have d4_19 := blk_cell hB4 (j := 19) rfl
  have c4_20 := blk_cell hA4 (j := 20) rfl
  have d4_20 := blk_cell hB4 (j := 20) rfl
  have hr4_0 : w.heap.size < w4.heap.size := (Array.getElem?_eq_some_iff.1 hA4).1
  have hr4_1 : w.heap.size + 1 < w4.heap.size := (Array.getElem?_eq_some_iff.1 hB4).1
  clear hm4 hA3 hB3 hM3 hr3_0 hr3_1 c3_17 d3_17 c3_18 d3_18
  go_wp2_with fail
  refine (eqValue_any x.minHeight x.minHeight _).mono ?_
  rintro e w5 ⟨rfl, hm5⟩
  rw [decide_eq_true rfl]
  have hM5 : Mod (fun _ => False) w w5 := hM4.thenNone hm5
  have hA5 := hm5.blk hA4 (fun f => f)
  have hB5 := hm5.blk hB4 (fun f => f)
  have c5_21 := blk_cell hA5 (j := 21) rfl
  have d5_21 := blk_cell hB5 (j := 21) rfl
  have c5_22 := blk_cell hA5 (j := 22) rfl
  have d5_22 := blk_cell hB5 (j := 22) rfl
  have hr5_0 : w.heap.size < w5.heap.size := (Array.getElem?_eq_some_iff.1 hA5).1
  have hr5_1 : w.heap.size + 1 < w5.heap.size := (Array.getElem?_eq_some_iff.1 hB5).1
  clear hm5 hA4 hB4 hM4 hr4_0 hr4_1 c4_19 d4_19 c4_20 d4_20
  go_wp2_with fail
  refine (eqValue_any x.maxWidth x.maxWidth _).mono ?_
  rintro e w6 ⟨rfl, hm6⟩
  rw [decide_eq_true rfl]
  have hM6 : Mod (fun _ => False) w w6 := hM5.thenNone hm6
  have hA6 := hm6.blk hA5 (fun f => f)
  have hB6 := hm6.blk hB5 (fun f => f)
  have c6_23 := blk_cell hA6 (j := 23) rfl
  have d6_23 := blk_cell hB6 (j := 23) rfl
  have c6_24 := blk_cell hA6 (j := 24) rfl
  have d6_24 := blk_cell hB6 (j := 24) rfl
  have hr6_0 : w.heap.size < w6.heap.size := (Array.getElem?_eq_some_iff.1 hA6).1
  have hr6_1 : w.heap.size + 1 < w6.heap.size := (Array.getElem?_eq_some_iff.1 hB6).1
  clear hm6 hA5 hB5 hM5 hr5_0 hr5_1 c5_21 d5_21 c5_22 d5_22
  go_wp2_with fail
  refine (eqValue_any x.maxHeight x.maxHeight _).mono ?_
  rintro e w7 ⟨rfl, hm7⟩
  rw [decide_eq_true rfl]
  have hM7 : Mod (fun _ => False) w w7 := hM6.thenNone hm7
  have hA7 := hm7.blk hA6 (fun f => f)
  have hB7 := hm7.blk hB6 (fun f => f)
  have c7_25 := blk_cell hA7 (j := 25) rfl
  have d7_25 := blk_cell hB7 (j := 25) rfl
  have c7_26 := blk_cell hA7 (j := 26) rfl
  have d7_26 := blk_cell hB7 (j := 26) rfl
  have c7_27 := blk_cell hA7 (j := 27) rfl
  have d7_27 := blk_cell hB7 (j := 27) rfl
  have c7_28 := blk_cell hA7 (j := 28) rfl
  have d7_28 := blk_cell hB7 (j := 28) rfl
  have c7_29 := blk_cell hA7 (j := 29) rfl
  have d7_29 := blk_cell hB7 (j := 29) rfl
  have c7_30 := blk_cell hA7 (j := 30) rfl
  have d7_30 := blk_cell hB7 (j := 30) rfl
  have c7_31 := blk_cell hA7 (j := 31) rfl
  have d7_31 := blk_cell hB7 (j := 31) rfl
  have c7_32 := blk_cell hA7 (j := 32) rfl
  have d7_32 := blk_cell hB7 (j := 32) rfl
  have c7_33 := blk_cell hA7 (j := 33) rfl
  have d7_33 := blk_cell hB7 (j := 33) rfl
  have c7_34 := blk_cell hA7 (j := 34) rfl
  have d7_34 := blk_cell hB7 (j := 34) rfl
  have c7_35 := blk_cell hA7 (j := 35) rfl
  have d7_35 := blk_cell hB7 (j := 35) rfl
  have c7_36 := blk_cell hA7 (j := 36) rfl
  have d7_36 := blk_cell hB7 (j := 36) rfl
  have c7_37 := blk_cell hA7 (j := 37) rfl
  have d7_37 := blk_cell hB7 (j := 37) rfl
  have hr7_0 : w.heap.size < w7.heap.size := (Array.getElem?_eq_some_iff.1 hA7).1
  have hr7_1 : w.heap.size + 1 < w7.heap.size := (Array.getElem?_eq_some_iff.1 hB7).1
  clear hm7 hA6 hB6 hM6 hr6_0 hr6_1 c6_23 d6_23 c6_24 d6_24
  go_wp2_with fail
  refine (eqSides_same x.margin _).mono ?_
  rintro e w8 ⟨rfl, hm8⟩
  have hM8 : Mod (fun _ => False) w w8 := hM7.thenNone hm8
  have hA8 := hm8.blk hA7 (fun f => f)
  have hB8 := hm8.blk hB7 (fun f => f)
  have c8_38 := blk_cell hA8 (j := 38) rfl
  have d8_38 := blk_cell hB8 (j := 38) rfl
  have c8_39 := blk_cell hA8 (j := 39) rfl
  have d8_39 := blk_cell hB8 (j := 39) rfl
  have c8_40 := blk_cell hA8 (j := 40) rfl
  have d8_40 := blk_cell hB8 (j := 40) rfl
  have c8_41 := blk_cell hA8 (j := 41) rfl
  have d8_41 := blk_cell hB8 (j := 41) rfl
  have c8_42 := blk_cell hA8 (j := 42) rfl
  have d8_42 := blk_cell hB8 (j := 42) rfl
  have c8_43 := blk_cell hA8 (j := 43) rfl
  have d8_43 := blk_cell hB8 (j := 43) rfl
  have c8_44 := blk_cell hA8 (j := 44) rfl
  have d8_44 := blk_cell hB8 (j := 44) rfl
  have c8_45 := blk_cell hA8 (j := 45) rfl
  have d8_45 := blk_cell hB8 (j := 45) rfl
  have c8_46 := blk_cell hA8 (j := 46) rfl
  have d8_46 := blk_cell hB8 (j := 46) rfl
  have c8_47 := blk_cell hA8 (j := 47) rfl
  have d8_47 := blk_cell hB8 (j := 47) rfl
  have c8_48 := blk_cell hA8 (j := 48) rfl
  have d8_48 := blk_cell hB8 (j := 48) rfl
  have c8_49 := blk_cell hA8 (j := 49) rfl
  have d8_49 := blk_cell hB8 (j := 49) rfl
  have hr8_0 : w.heap.size < w8.heap.size := (Array.getElem?_eq_some_iff.1 hA8).1
  have hr8_1 : w.heap.size + 1 < w8.heap.size := (Array.getElem?_eq_some_iff.1 hB8).1
  clear hm8 hA7 hB7 hM7 hr7_0 hr7_1 c7_25 d7_25 c7_26 d7_26 c7_27 d7_27 c7_28 d7_28 c7_29 d7_29 c7_30 d7_30 c7_31 d7_31 c7_32 d7_32 c7_33 d7_33 c7_34 d7_34 c7_35 d7_35 c7_36 d7_36 c7_37 d7_37
  go_wp2_with fail
  refine (eqSides_same x.inset _).mono ?_
  rintro e w9 ⟨rfl, hm9⟩
  have hM9 : Mod (fun _ => False) w w9 := hM8.thenNone hm9
  have hA9 := hm9.blk hA8 (fun f => f)
  have hB9 := hm9.blk hB8 (fun f => f)
  have c9_50 := blk_cell hA9 (j := 50) rfl
  have d9_50 := blk_cell hB9 (j := 50) rfl
  have c9_51 := blk_cell hA9 (j := 51) rfl
  have d9_51 := blk_cell hB9 (j := 51) rfl
  have c9_52 := blk_cell hA9 (j := 52) rfl
  have d9_52 := blk_cell hB9 (j := 52) rfl
  have c9_53 := blk_cell hA9 (j := 53) rfl
  have d9_53 := blk_cell hB9 (j := 53) rfl
  have hr9_0 : w.heap.size < w9.heap.size := (Array.getElem?_eq_some_iff.1 hA9).1
  have hr9_1 : w.heap.size + 1 < w9.heap.size := (Array.getElem?_eq_some_iff.1 hB9).1
  clear hm9 hA8 hB8 hM8 hr8_0 hr8_1 c8_38 d8_38 c8_39 d8_39 c8_40 d8_40 c8_41 d8_41 c8_42 d8_42 c8_43 d8_43 c8_44 d8_44 c8_45 d8_45 c8_46 d8_46 c8_47 d8_47 c8_48 d8_48 c8_49 d8_49
  go_wp2_with fail
  refine (eqEdges_same x.pad _).mono ?_
  rintro e w10 ⟨rfl, hm10⟩
  have hM10 : Mod (fun _ => False) w w10 := hM9.thenNone hm10
  have hA10 := hm10.blk hA9 (fun f => f)
  have hB10 := hm10.blk hB9 (fun f => f)
  have c10_54 := blk_cell hA10 (j := 54) rfl
  have d10_54 := blk_cell hB10 (j := 54) rfl
  have c10_55 := blk_cell hA10 (j := 55) rfl
  have d10_55 := blk_cell hB10 (j := 55) rfl
  have c10_56 := blk_cell hA10 (j := 56) rfl
  have d10_56 := blk_cell hB10 (j := 56) rfl
  have c10_57 := blk_cell hA10 (j := 57) rfl
  have d10_57 := blk_cell hB10 (j := 57) rfl
  have hr10_0 : w.heap.size < w10.heap.size := (Array.getElem?_eq_some_iff.1 hA10).1
  have hr10_1 : w.heap.size + 1 < w10.heap.size := (Array.getElem?_eq_some_iff.1 hB10).1
  clear hm10 hA9 hB9 hM9 hr9_0 hr9_1 c9_50 d9_50 c9_51 d9_51 c9_52 d9_52 c9_53 d9_53
  go_wp2_with fail
  refine (eqEdges_same x.border _).mono ?_
  rintro e w11 ⟨rfl, hm11⟩
  have hM11 : Mod (fun _ => False) w w11 := hM10.thenNone hm11
  have hA11 := hm11.blk hA10 (fun f => f)
  have hB11 := hm11.blk hB10 (fun f => f)
  have c11_58 := blk_cell hA11 (j := 58) rfl
  have d11_58 := blk_cell hB11 (j := 58) rfl
  have c11_59 := blk_cell hA11 (j := 59) rfl
  have d11_59 := blk_cell hB11 (j := 59) rfl
  have hr11_0 : w.heap.size < w11.heap.size := (Array.getElem?_eq_some_iff.1 hA11).1
  have hr11_1 : w.heap.size + 1 < w11.heap.size := (Array.getElem?_eq_some_iff.1 hB11).1
  clear hm11 hA10 hB10 hM10 hr10_0 hr10_1 c10_54 d10_54 c10_55 d10_55 c10_56 d10_56 c10_57 d10_57
  clear hA11 hB11
  go_wp2
  go_ret
  exact ⟨rfl, hM11⟩

end Go.Proofs.Ytkkjjhooamlljaa
namespace Go.Proofs.Ytkkjjhooamlljaa
open Go.RowKit

theorem info_Rule : (Try.prog.info? 145).map (fun i => (i.zero, i.size, i.bytes)) = some (some (.agg #[.int .i64 0, .int .i64 0, .int .i64 0]), 3, 24) := by kernel_rfl

end Go.Proofs.Ytkkjjhooamlljaa
namespace Go.Proofs.Ytkkjjhooamlljaa
open Go.RowKit

theorem toRule_any (x : Rule) (w : World) : Calls Try.prog 88 #[.agg #[.int .i64 x.room, .int .i64 x.wide, .int .i64 x.high]] w fun e w' => e = .returned (.agg #[.int .i64 x.room, .int .i64 x.wide, .int .i64 x.high]) ∧ Mod (fun _ => False) w w' := by
  go_enter Try.func88, Try.ntmps88
  go_wp2
  refine bodyPost_ret (v := .agg #[.int .i64 x.room, .int .i64 x.wide, .int .i64 x.high]) (by simp [results, Try.results88, go_sem]) rfl ⟨rfl, by (repeat (first | with_reducible exact Mod.refl _ _ | with_reducible refine Mod.drewN ?_ _ | with_reducible refine Mod.drew ?_ | with_reducible refine Mod.alloc ?_ _ | ((with_reducible refine Mod.setNew ?_ ?_ _ _ _); (rotate_left; omega)) | with_reducible refine Mod.setAt ?_ _ _ _ ))⟩

set_option maxHeartbeats 1000000 in
theorem eqRule_any (x y : Rule) (w : World) : Calls Try.prog 89 #[.agg #[.int .i64 x.room, .int .i64 x.wide, .int .i64 x.high], .agg #[.int .i64 y.room, .int .i64 y.wide, .int .i64 y.high]] w fun e w' => e = .returned (.bool (decide (x = y))) ∧ Mod (fun _ => False) w w' := by
  obtain ⟨x0, x1, x2⟩ := x
  obtain ⟨y0, y1, y2⟩ := y
  go_enter Try.func89, Try.ntmps89
  go_wp2
  all_goals
    go_ret
    refine ⟨ret_bool ?_, by (repeat (first | with_reducible exact Mod.refl _ _ | with_reducible refine Mod.drewN ?_ _ | with_reducible refine Mod.drew ?_ | with_reducible refine Mod.alloc ?_ _ | ((with_reducible refine Mod.setNew ?_ ?_ _ _ _); (rotate_left; omega)) | with_reducible refine Mod.setAt ?_ _ _ _ ))⟩
    simp_all


end Go.Proofs.Ytkkjjhooamlljaa
namespace Go.Proofs.Ytkkjjhooamlljaa
open Go.RowKit

theorem szRuleS_any (n c : Nat) (a : Option Addr) (left : Int) (h0 : 0 ≤ left) (h1 : left ≤ 1048576) (hn : n ≤ 9223372036854775807) (w : World) : Calls Try.prog 79 #[.slice a n c, .int .i64 left] w fun e w' => e = .returned (.int .i64 (if left < n then -1 else left - n)) ∧ w = w' := by
  by_cases h : left < n
  · rw [if_pos h]
    have h2 : left - n < 0 := by omega
    have h3 : -9223372036854775807 ≤ left - n := by omega
    go_enter Try.func79, Try.ntmps79
    go_wp2
    go_ret
    exact ⟨rfl, rfl⟩
  · rw [if_neg h]
    have h2 : 0 ≤ left - n := by omega
    go_enter Try.func79, Try.ntmps79
    go_wp2
    go_ret
    exact ⟨rfl, rfl⟩

set_option maxRecDepth 100000 in
set_option maxHeartbeats 1000000 in
theorem toRuleS_any (l : List Rule) (a : Option Addr) (c : Nat) (R : Nat → Prop) (w : World) (hl : l.length ≤ 1048576) (h : SliceAt (Flat Rule.cells) 3 R w a l) :
    Calls Try.prog 83 #[.slice a l.length c] w (NewRows 145 w l.length (l.map Rule.cells).flatten) := by
  have H := hid h
  clear h
  obtain ⟨i0, hi, hz0, hz1, hz2⟩ := info_parts info_Rule
  have hmk : ∀ W : World, (Instr.makeSlice 108 (.int .i64 (l.length : Int)) (.int .i64 (l.length : Int))).run Try.prog W = .ok (.slice (some ⟨W.heap.size, 0, none⟩) l.length l.length) (W.alloc (.cells (madeCells (Value.cells (.agg #[.int .i64 0, .int .i64 0, .int .i64 0])) (l.length * 3)) 145)) := by
    intro W
    have := run_make (P := Try.prog) W 108 145 i0 _ Try.underlying108 hi hz0 .i64 .i64 l.length l.length (by omega) (by omega) (by rw [hz2]; omega) (by omega)
    simpa [hz1] using this
  clear hz0 hz1 hz2 hi
  go_enter Try.func83, Try.ntmps83
  go_wp2
  go_loopw [4] (fun i wr => ∃ k : Nat, k ≤ l.length ∧ i = .int .i64 k ∧ Filled w.heap.size 145 (l.length * 3) wr ((l.take k).map Rule.cells).flatten ∧ Mod (fun _ => False) w wr) (fun i _ => l.length - (intOf i).toNat)
  case atStart => exact ⟨0, by omega, rfl, Filled.made w _ _ _ (size_madeCells _ _), (Mod.refl _ w).alloc _⟩
  case round =>
    obtain ⟨k, hk, rfl, hF, hM⟩ := hrel
    clear hmk
    by_cases hlt : k < l.length
    · obtain ⟨b, o, x, r, rfl, hb, hbw, hx, hr, hrl, hc⟩ := (H.out.mod hM (fun _ _ f => f) (fun _ _ h => h)).get hlt
      obtain rfl : r = x.cells := hr
      have c0 : wr.cell? ⟨b, o + k * 3, none⟩ = _ := hc 0 _ rfl
      have c1 : wr.cell? ⟨b, o + k * 3 + 1, none⟩ = _ := hc 1 _ rfl
      have c2 : wr.cell? ⟨b, o + k * 3 + 2, none⟩ = _ := hc 2 _ rfl
      clear hc hrl
      go_wp2_with fail
      refine (toRule_any x _).mono ?_
      rintro e w1 ⟨rfl, hm1⟩
      have hF1 := hF.mod hm1 (fun f => f)
      obtain ⟨v0, d0⟩ := hF1.cell (off := k * 3) (by omega)
      obtain ⟨v1, d1⟩ := hF1.cell (off := k * 3 + 1) (by omega)
      obtain ⟨v2, d2⟩ := hF1.cell (off := k * 3 + 2) (by omega)
      have z0 := hF1.free (k * 3)
      have z1 := hF1.free (k * 3 + 1)
      have z2 := hF1.free (k * 3 + 2)
      go_wp2
      go_roundw
      case rel =>
        refine ⟨k + 1, by omega, by go_num, ?_, ?_⟩
        · have hl0 := flat_length (cells := Rule.cells) (sz := 3) (fun _ => rfl) (l.take k)
          rw [take_length_of_lt hk] at hl0
          rw [flat_succ hx]
          have e : ∀ s : List Value, s ++ x.cells = s ++ [.int .i64 x.room] ++ [.int .i64 x.wide] ++ [.int .i64 x.high] := by intro s; simp [Rule.cells]
          rw [e]
          generalize ((l.take k).map Rule.cells).flatten = s at hF1 hl0
          exact (((hF1.push (off := k * 3) (by simp [hl0]) (by omega) _).push (off := k * 3 + 1) (by simp [hl0]) (by omega) _).push (off := k * 3 + 2) (by simp [hl0]) (by omega) _)
        · have hM1 := hM.thenNone hm1
          (repeat (first | with_reducible exact Mod.refl _ _ | with_reducible refine Mod.drewN ?_ _ | with_reducible refine Mod.drew ?_ | with_reducible refine Mod.alloc ?_ _ | ((with_reducible refine Mod.setNew ?_ ?_ _ _ _); (rotate_left; omega)) | with_reducible refine Mod.setAt ?_ _ _ _ | with_reducible exact hM1 | with_reducible refine Mod.thenNone ?_ hM1 ))
      case measure => simp [intOf]; omega
    · have hk' : k = l.length := by omega
      subst hk'
      go_wp2
      go_ret
      refine ⟨w.heap.size, rfl, Nat.le_refl _, ?_, hM⟩
      rw [List.take_length] at hF
      exact hF.full (flat_length (cells := Rule.cells) (sz := 3) (fun _ => rfl) l)

set_option maxRecDepth 100000 in
set_option maxHeartbeats 1000000 in
theorem eqRuleS_any (l m : List Rule) (a a' : Option Addr) (c c' : Nat) (R S : Nat → Prop) (w : World) (hl : l.length ≤ 9223372036854775807) (_hm : m.length ≤ 9223372036854775807) (h : SliceAt (Flat Rule.cells) 3 R w a l) (h' : SliceAt (Flat Rule.cells) 3 S w a' m) :
    Calls Try.prog 87 #[.slice a l.length c, .slice a' m.length c'] w fun e w' => e = .returned (.bool (decide (l = m))) ∧ Mod (fun _ => False) w w' := by
  have H := hid h
  have H' := hid h'
  clear h h'
  by_cases hlen : l.length = m.length
  · have hn0 : ((l.length : Int) != (m.length : Int)) = false := by simp [hlen]
    have hn1 : l.length ≤ m.length := by omega
    have hn2 : m.length ≤ l.length := by omega
    clear hlen
    go_enter Try.func87, Try.ntmps87
    go_wp2
    go_loopw [5] (fun i wr => ∃ k : Nat, k ≤ l.length ∧ i = .int .i64 k ∧ SameTo l m k ∧ Mod (fun _ => False) w wr) (fun i _ => l.length - (intOf i).toNat)
    case atStart => exact ⟨0, by omega, rfl, rfl, Mod.refl _ _⟩
    case round =>
      obtain ⟨k, hk, rfl, hsame, hmod⟩ := hrel
      by_cases hlt : k < l.length
      · obtain ⟨b, o, x, r, rfl, hb, hbw, hx, hr, hrl, hc⟩ := (H.out.mod hmod (fun _ _ f => f) (fun _ _ h => h)).get hlt
        obtain rfl : r = x.cells := hr
        obtain ⟨b', o', y, r', rfl, hb', hbw', hy, hr', hrl', hd⟩ := (H'.out.mod hmod (fun _ _ f => f) (fun _ _ h => h)).get (show k < m.length by omega)
        obtain rfl : r' = y.cells := hr'
        have hlt2 : k < m.length := by omega
        have c0 : wr.cell? ⟨b, o + k * 3, none⟩ = _ := hc 0 _ rfl
        have d0 : wr.cell? ⟨b', o' + k * 3, none⟩ = _ := hd 0 _ rfl
        have c1 : wr.cell? ⟨b, o + k * 3 + 1, none⟩ = _ := hc 1 _ rfl
        have d1 : wr.cell? ⟨b', o' + k * 3 + 1, none⟩ = _ := hd 1 _ rfl
        have c2 : wr.cell? ⟨b, o + k * 3 + 2, none⟩ = _ := hc 2 _ rfl
        have d2 : wr.cell? ⟨b', o' + k * 3 + 2, none⟩ = _ := hd 2 _ rfl
        clear hc hd hrl hrl'
        by_cases hxy : x = y
        · have hd : decide (x = y) = true := decide_eq_true hxy
          have Hxy := hid hxy
          clear hxy
          go_wp2
          go_still_tail 8, (by kernel_rfl)
          go_wp2_with fail
          refine (eqRule_any x y _).mono ?_
          rintro e w1 ⟨rfl, hm1⟩
          go_wp2
          go_roundw
          case rel => exact ⟨k + 1, by omega, by go_num, hsame.succ hx (Hxy.out ▸ hy), hmod.drew.thenNone hm1⟩
          case measure => simp [intOf]; omega
        · have hd : decide (x = y) = false := decide_eq_false hxy
          go_wp2
          go_still_tail 8, (by kernel_rfl)
          go_wp2_with fail
          refine (eqRule_any x y _).mono ?_
          rintro e w1 ⟨rfl, hm1⟩
          go_wp2
          go_ret
          exact ⟨ret_bool (decide_eq_false (ne_at hx hy hxy)).symm, hmod.drew.thenNone hm1⟩
      · go_wp2
        go_ret
        exact ⟨ret_bool (decide_eq_true (hsame.all (by omega) (by omega))).symm, hmod⟩
  · have hn0 : ((l.length : Int) != (m.length : Int)) = true := by simp; omega
    have hne : l ≠ m := fun h => hlen (by rw [h])
    clear hlen
    go_enter Try.func87, Try.ntmps87
    go_wp2
    go_ret
    exact ⟨ret_bool (decide_eq_false hne).symm, Mod.refl _ _⟩

/-- A marked element's cells, its first mark q. -/
def Rule.marked (q : Int) : List Value := [.int .i64 (q), .int .i64 (q + 1), .int .i64 (q + 1 + 1)]
def Rule.marks (q : Int) : Nat → List Value
  | 0 => []
  | k + 1 => Rule.marks q k ++ Rule.marked (q + k * 3)
theorem Rule.marks_length (q : Int) (k : Nat) : (Rule.marks q k).length = k * 3 := by
  induction k with
  | zero => simp [Rule.marks]
  | succ k ih => simp [Rule.marks, Rule.marked, ih]; omega

set_option maxRecDepth 100000 in
set_option maxHeartbeats 1000000 in
theorem markRuleS_any (n c : Nat) (a : Option Addr) (g N : Nat) (w : World) (q0 : Int) (hq0 : 0 ≤ q0) (hq1 : q0 ≤ 1000000000000000) (hn : n ≤ 1048576) (h : n = 0 ∨ a = some ⟨g, 0, none⟩ ∧ n * 3 ≤ N ∧ Filled g 145 N w []) :
    Calls Try.prog 63 #[.slice a n c, .int .i64 q0] w fun e w' => e = .returned (.int .i64 (q0 + n * 3)) ∧ Mod (fun k => k = g) w w' ∧ (n = 0 ∨ Filled g 145 N w' (Rule.marks q0 n)) := by
  have H := hid h
  clear h
  go_enter Try.func63, Try.ntmps63
  go_wp2
  go_loopw [1, 5] (fun z i wr => ∃ (k : Nat) (q : Int), k ≤ n ∧ z = .int .i64 q ∧ Hid (q = q0 + k * 3) ∧ 0 ≤ q ∧ q ≤ 10000000000000000 ∧ i = .int .i64 k ∧ Mod (fun k => k = g) w wr ∧ (n = 0 ∨ Filled g 145 N wr (Rule.marks q0 k))) (fun _ i _ => n - (intOf i).toNat)
  case atStart =>
    refine ⟨0, q0, by omega, rfl, by show q0 = q0 + _; omega, by omega, by omega, rfl, Mod.refl _ _, ?_⟩
    rcases H.out with h | ⟨_, _, h⟩
    · exact .inl h
    · exact .inr h
  case round =>
    obtain ⟨k, q, hk, rfl, hq, q1, q2, rfl, hM, hF0⟩ := hrel
    by_cases hlt : k < n
    · rcases H.out with h | ⟨rfl, hN, _⟩
      · omega
      have hF := hF0.resolve_left (by omega)
      have hl0 := Rule.marks_length q0 k
      clear hF0
      obtain ⟨v0, d0⟩ := hF.cell (off := k * 3) (by omega)
      have z0 := hF.free (k * 3)
      obtain ⟨v1, d1⟩ := hF.cell (off := k * 3 + 1) (by omega)
      have z1 := hF.free (k * 3 + 1)
      obtain ⟨v2, d2⟩ := hF.cell (off := k * 3 + 2) (by omega)
      have z2 := hF.free (k * 3 + 2)
      have HF := hid hF
      have Hl0 := hid hl0
      clear hF hl0
      go_wp2
      go_roundw
      case rel =>
        have hF := HF.out
        have hl0 := Hl0.out
        have hq' := hq.out
        refine ⟨k + 1, q + 1 + 1 + 1, by omega, rfl, by show q + 1 + 1 + 1 = _; omega, by omega, by omega, by go_num, by (repeat (first | with_reducible exact Mod.refl _ _ | with_reducible refine Mod.drewN ?_ _ | with_reducible refine Mod.drew ?_ | with_reducible refine Mod.alloc ?_ _ | ((with_reducible refine Mod.setNew ?_ ?_ _ _ _); (rotate_left; omega)) | with_reducible refine Mod.setAt ?_ _ _ _ | with_reducible exact hM | with_reducible refine Mod.thenNone ?_ hM )), .inr ?_⟩
        have e : Rule.marks q0 (k + 1) = Rule.marks q0 k ++ [.int .i64 (q)] ++ [.int .i64 (q + 1)] ++ [.int .i64 (q + 1 + 1)] := by
          simp [Rule.marks, Rule.marked, ← hq']
        rw [e]
        exact (((hF.push (off := k * 3) (by simp [hl0]) (by omega) _).push (off := k * 3 + 1) (by simp [hl0]) (by omega) _).push (off := k * 3 + 2) (by simp [hl0]) (by omega) _)
      case measure => simp [intOf]; omega
    · have hk' : k = n := by omega
      subst hk'
      go_wp2
      go_ret
      exact ⟨ret_int hq.out, hM, hF0⟩

theorem Rule.marks_at (q0 : Int) (n k j : Nat) (v : Value) (hk : k < n) (hj : (Rule.marked (q0 + k * 3))[j]? = some v) : (Rule.marks q0 n)[k * 3 + j]? = some v := by
  have hjl : j < 3 := by
    have := (List.getElem?_eq_some_iff.1 hj).1
    simpa [Rule.marked] using this
  induction n with
  | zero => omega
  | succ n ih =>
    have hl := Rule.marks_length q0 n
    unfold Rule.marks
    by_cases e : k = n
    · subst e
      rw [List.getElem?_append_right (by omega), hl, Nat.add_sub_cancel_left]
      exact hj
    · rw [List.getElem?_append_left (by rw [hl]; omega)]
      exact ih (by omega)
theorem Rule.marks_cell {g e N n k : Nat} {w : World} {q0 q : Int} (hF : Filled g e N w (Rule.marks q0 n)) (hk : k < n) (hq : Hid (q = q0 + k * 3)) (j : Nat) (v : Value) (hj : (Rule.marked q)[j]? = some v) : w.cell? ⟨g, k * 3 + j, none⟩ = some v :=
  hF.read (Rule.marks_at q0 n k j v hk (by rw [← hq.out]; exact hj))

set_option maxRecDepth 100000 in
set_option maxHeartbeats 1000000 in
theorem heldRuleS_any (n c : Nat) (a : Option Addr) (g N : Nat) (w : World) (q0 : Int) (hq0 : 0 ≤ q0) (hq1 : q0 ≤ 1000000000000000) (hn : n ≤ 1048576) (h : n = 0 ∨ a = some ⟨g, 0, none⟩ ∧ n * 3 ≤ N ∧ Filled g 145 N w (Rule.marks q0 n)) :
    Calls Try.prog 65 #[.slice a n c, .int .i64 q0] w fun e w' => e = .returned (.int .i64 (q0 + n * 3)) ∧ Mod (fun _ => False) w w' := by
  have H := hid h
  clear h
  go_enter Try.func65, Try.ntmps65
  go_wp2
  go_loop [1, 5] (fun z i => ∃ (k : Nat) (q : Int), k ≤ n ∧ z = .int .i64 q ∧ Hid (q = q0 + k * 3) ∧ 0 ≤ q ∧ q ≤ 10000000000000000 ∧ i = .int .i64 k) (fun _ i => n - (intOf i).toNat)
  case atStart => exact ⟨0, q0, by omega, rfl, by show q0 = q0 + _; omega, by omega, by omega, rfl⟩
  case round =>
    obtain ⟨k, q, hk, rfl, hq, q1, q2, rfl⟩ := hrel
    by_cases hlt : k < n
    · rcases H.out with h | ⟨rfl, hN, hF⟩
      · omega
      have hc := Rule.marks_cell hF hlt hq
      have c0 := hc 0 _ rfl
      have c1 := hc 1 _ rfl
      have c2 := hc 2 _ rfl
      simp only [Nat.add_zero] at c0
      clear hc hF
      go_wp2
      go_round
      case rel => exact ⟨k + 1, q + 1 + 1 + 1, by omega, rfl, by have := hq.out; show q + 1 + 1 + 1 = _; omega, by have := hq.out; omega, by have := hq.out; omega, by go_num⟩
      case measure => simp [intOf]; omega
    · have hk' : k = n := by omega
      subst hk'
      go_wp2
      go_ret
      exact ⟨ret_int hq.out, Mod.refl _ _⟩

end Go.Proofs.Ytkkjjhooamlljaa
namespace Go.Proofs.Ytkkjjhooamlljaa
open Go.RowKit

/-- A struct that holds one new slice. -/
def NewTable (e : TypeId) (w : World) (n : Nat) (xs : List Value) (en : Ending) (w' : World) : Prop :=
  ∃ g, en = .returned (.agg #[.slice (some ⟨g, 0, none⟩) n n]) ∧ w.heap.size ≤ g ∧ w'.heap[g]? = some (.cells xs.toArray e (0, 0)) ∧ Mod (fun _ => False) w w'

set_option maxHeartbeats 1000000 in
theorem toTable_any (l : List Rule) (a : Option Addr) (c : Nat) (R : Nat → Prop) (w : World) (hl : l.length ≤ 1048576) (h : SliceAt (Flat Rule.cells) 3 R w a l) :
    Calls Try.prog 71 #[.agg #[.slice a l.length c]] w (NewTable 145 w l.length (l.map Rule.cells).flatten) := by
  have H := hid h
  clear h
  go_enter Try.func71, Try.ntmps71
  go_wp2_with fail
  refine (toRuleS_any l _ _ _ _ hl (H.out.flatKeep (by (repeat (first | with_reducible exact Mod.refl _ _ | with_reducible refine Mod.drewN ?_ _ | with_reducible refine Mod.drew ?_ | with_reducible refine Mod.alloc ?_ _ | ((with_reducible refine Mod.setNew ?_ ?_ _ _ _); (rotate_left; omega)) | with_reducible refine Mod.setAt ?_ _ _ _ ))))).mono ?_
  rintro e w1 ⟨g, rfl, hg, hb, hm1⟩
  obtain ⟨hq1, hz1⟩ := mcell hm1
  have hs1 := hm1.size
  repeat (first | rw [World.size_alloc] at hs1 | rw [World.size_setCell] at hs1 | rw [World.size_drew] at hs1 | unfold World.drewN at hs1)
  have hr1_0 : w.heap.size < w1.heap.size := by omega
  have hr1_1 : w.heap.size + 1 < w1.heap.size := by omega
  have hr1_2 : w.heap.size + 1 + 1 < w1.heap.size := by omega
  simp only [World.size_alloc] at hg
  have hne : g ≠ w.heap.size + 1 + 1 := by omega
  have hne' : g ≠ w.heap.size + 1 := by omega
  have Hb := hid hb
  clear hb
  go_wp2
  refine bodyPost_ret (v := .agg #[.slice (some ⟨g, 0, none⟩) l.length l.length]) ?_ rfl ⟨g, rfl, by omega, ?_, ?_⟩
  · simp [results, Try.results71, go_sem, *]
  · simp only [blk_far hne, blk_far hne']
    exact Hb.out
  · (repeat (first | with_reducible exact Mod.refl _ _ | with_reducible refine Mod.drewN ?_ _ | with_reducible refine Mod.drew ?_ | with_reducible refine Mod.alloc ?_ _ | ((with_reducible refine Mod.setNew ?_ ?_ _ _ _); (rotate_left; omega)) | with_reducible refine Mod.setAt ?_ _ _ _ | with_reducible exact hm1 | with_reducible refine Mod.thenNone ?_ hm1 ))

set_option maxHeartbeats 1000000 in
theorem eqTable_any (l m : List Rule) (a a' : Option Addr) (c c' : Nat) (R S : Nat → Prop) (w : World) (hl : l.length ≤ 9223372036854775807) (hm : m.length ≤ 9223372036854775807) (h : SliceAt (Flat Rule.cells) 3 R w a l) (h' : SliceAt (Flat Rule.cells) 3 S w a' m) :
    Calls Try.prog 76 #[.agg #[.slice a l.length c], .agg #[.slice a' m.length c']] w fun e w' => e = .returned (.bool (decide (l = m))) ∧ Mod (fun _ => False) w w' := by
  have H := hid h
  have H' := hid h'
  clear h h'
  by_cases hx : l = m
  · have hd : decide (l = m) = true := decide_eq_true hx
    have Hx := hid hx
    clear hx
    go_enter Try.func76, Try.ntmps76
    go_wp2_with fail
    refine (eqRuleS_any l m _ _ _ _ _ _ _ hl hm (H.out.flatKeep (by (repeat (first | with_reducible exact Mod.refl _ _ | with_reducible refine Mod.drewN ?_ _ | with_reducible refine Mod.drew ?_ | with_reducible refine Mod.alloc ?_ _ | ((with_reducible refine Mod.setNew ?_ ?_ _ _ _); (rotate_left; omega)) | with_reducible refine Mod.setAt ?_ _ _ _ )))) (H'.out.flatKeep (by (repeat (first | with_reducible exact Mod.refl _ _ | with_reducible refine Mod.drewN ?_ _ | with_reducible refine Mod.drew ?_ | with_reducible refine Mod.alloc ?_ _ | ((with_reducible refine Mod.setNew ?_ ?_ _ _ _); (rotate_left; omega)) | with_reducible refine Mod.setAt ?_ _ _ _ ))))).mono ?_
    rintro e w1 ⟨rfl, hm1⟩
    go_wp2
    go_ret
    exact ⟨ret_bool hd.symm, by (repeat (first | with_reducible exact Mod.refl _ _ | with_reducible refine Mod.drewN ?_ _ | with_reducible refine Mod.drew ?_ | with_reducible refine Mod.alloc ?_ _ | ((with_reducible refine Mod.setNew ?_ ?_ _ _ _); (rotate_left; omega)) | with_reducible refine Mod.setAt ?_ _ _ _ | with_reducible exact hm1 | with_reducible refine Mod.thenNone ?_ hm1 ))⟩
  · have hd : decide (l = m) = false := decide_eq_false hx
    go_enter Try.func76, Try.ntmps76
    go_wp2_with fail
    refine (eqRuleS_any l m _ _ _ _ _ _ _ hl hm (H.out.flatKeep (by (repeat (first | with_reducible exact Mod.refl _ _ | with_reducible refine Mod.drewN ?_ _ | with_reducible refine Mod.drew ?_ | with_reducible refine Mod.alloc ?_ _ | ((with_reducible refine Mod.setNew ?_ ?_ _ _ _); (rotate_left; omega)) | with_reducible refine Mod.setAt ?_ _ _ _ )))) (H'.out.flatKeep (by (repeat (first | with_reducible exact Mod.refl _ _ | with_reducible refine Mod.drewN ?_ _ | with_reducible refine Mod.drew ?_ | with_reducible refine Mod.alloc ?_ _ | ((with_reducible refine Mod.setNew ?_ ?_ _ _ _); (rotate_left; omega)) | with_reducible refine Mod.setAt ?_ _ _ _ ))))).mono ?_
    rintro e w1 ⟨rfl, hm1⟩
    go_wp2
    go_ret
    exact ⟨ret_bool hd.symm, by (repeat (first | with_reducible exact Mod.refl _ _ | with_reducible refine Mod.drewN ?_ _ | with_reducible refine Mod.drew ?_ | with_reducible refine Mod.alloc ?_ _ | ((with_reducible refine Mod.setNew ?_ ?_ _ _ _); (rotate_left; omega)) | with_reducible refine Mod.setAt ?_ _ _ _ | with_reducible exact hm1 | with_reducible refine Mod.thenNone ?_ hm1 ))⟩

end Go.Proofs.Ytkkjjhooamlljaa
namespace Go.Proofs.Ytkkjjhooamlljaa
open Go.RowKit

/-- The cells cs read as a datum of type t. -/
def Rd (P : Program) (w : World) (t : TypeId) (cs : List Value) : Prop :=
  ∃ (H : Type) (enc : TypeId × Value → H) (fuel : Nat) (x : DataW H × List MemPlace), DataW.trod enc P w 0 (fun _ => true) true fuel t cs = some x

section
variable {P : Program} {w : World} {t e : TypeId} {cs : List Value}
theorem Rd.int {k : IntKind} (h : Rd P w t cs) (hu : P.underlying t = some (.int k)) : ∃ n, cs = [.int k n] ∧ (Lit.int k n).wf = true := by
  obtain ⟨H, enc, fuel, x, h⟩ := h
  obtain ⟨n, h1, _, h2⟩ := DataW.trod_int hu h
  exact ⟨n, h1, h2⟩
theorem Rd.bool (h : Rd P w t cs) (hu : P.underlying t = some .bool) : ∃ b, cs = [.bool b] := by
  obtain ⟨H, enc, fuel, x, h⟩ := h
  obtain ⟨n, h1, _⟩ := DataW.trod_bool hu h
  exact ⟨n, h1⟩
theorem Rd.string (h : Rd P w t cs) (hu : P.underlying t = some .string) : ∃ s : ByteArray, cs = [.string s] ∧ s.size ≤ maxLen := by
  obtain ⟨H, enc, fuel, x, h⟩ := h
  obtain ⟨n, h1, _, h2⟩ := DataW.trod_string hu h
  exact ⟨n, h1, h2⟩
theorem Rd.struct {fs : Array Field} (h : Rd P w t cs) (hu : P.underlying t = some (.struct fs)) :
    cs.length = P.cellsOf t ∧ ∀ (i : Nat) (f : Field), fs[i]? = some f → Rd P w f.type ((cs.drop f.offset).take (P.cellsOf f.type)) := by
  obtain ⟨H, enc, fuel, x, h⟩ := h
  obtain ⟨xs, n, _, _, hl, hxl, hf⟩ := DataW.trod_struct hu h
  refine ⟨hl, fun i f hi => ?_⟩
  have h1 := hf i f hi
  have hil : i < xs.length := by rw [hxl]; exact (Array.getElem?_eq_some_iff.1 hi).1
  rw [List.getElem?_eq_getElem hil] at h1
  exact ⟨H, enc, n, _, h1⟩
theorem Rd.slice (h : Rd P w t cs) (hu : P.underlying t = some (.slice e)) (hc : 0 < P.cellsOf e) :
    ∃ (a : Option Addr) (len cap : Nat), cs = [.slice a len cap] ∧ len ≤ cap ∧ cap ≤ maxLen ∧
      (len = 0 ∨ ∃ b o, a = some ⟨b, o, none⟩ ∧ b < w.heap.size ∧ ∀ i, i < len → ∃ cs', (cs'.length = P.cellsOf e ∧ ∀ (j : Nat) (v : Value), cs'[j]? = some v → w.cell? ⟨b, o + i * P.cellsOf e + j, none⟩ = some v) ∧ Rd P w e cs') := by
  obtain ⟨H, enc, fuel, x, h⟩ := h
  rcases DataW.trod_slice hu h with ⟨h1, _⟩ | ⟨a, len, cap, elems, rest, n, _, h1, _, _, hl, hm, hlen, hel, _⟩
  · exact ⟨_, _, _, h1, Nat.le_refl _, Nat.zero_le _, .inl rfl⟩
  · refine ⟨some a, len, cap, h1, hl, hm, ?_⟩
    by_cases h0 : len = 0
    · exact .inl h0
    · have rows : ∀ i, i < len → ∃ cs', (cs'.length = P.cellsOf e ∧ ∀ (j : Nat), j < P.cellsOf e → w.cell? ((a.add (i * P.cellsOf e)).add j) = cs'[j]?) ∧ Rd P w e cs' := by
        intro i hi
        have h2 := hel i hi
        rw [List.getElem?_eq_getElem (by omega)] at h2
        obtain ⟨cs', h3, h4⟩ := Option.bind_eq_some_iff.1 h2
        obtain ⟨_, h5, h6⟩ := World.cells?_some h3
        exact ⟨cs', ⟨h5, h6⟩, H, enc, n, _, h4⟩
      obtain ⟨b, o, s⟩ := a
      have hs : s = none := by
        obtain ⟨cs', ⟨h5, h6⟩, _⟩ := rows 0 (by omega)
        have h7 := h6 0 hc
        rw [List.getElem?_eq_getElem (by omega)] at h7
        simpa [Addr.add] using World.cell?_spot h7
      subst hs
      have ea : ∀ p q r : Nat, ((⟨p, q, none⟩ : Addr).add r) = ⟨p, q + r, none⟩ := by intro p q r; unfold Addr.add; split <;> simp_all
      have hb : b < w.heap.size := by
        obtain ⟨cs', ⟨h5, h6⟩, _⟩ := rows 0 (by omega)
        have h7 := h6 0 hc
        rw [List.getElem?_eq_getElem (by omega), ea, ea] at h7
        exact World.block_lt_of_cell? w ⟨b, _, none⟩ h7
      refine .inr ⟨b, o, rfl, hb, fun i hi => ?_⟩
      obtain ⟨cs', ⟨h5, h6⟩, h7⟩ := rows i hi
      refine ⟨cs', ⟨h5, fun j v hj => ?_⟩, h7⟩
      have h8 := h6 j (by have := (List.getElem?_eq_some_iff.1 hj).1; omega)
      rw [ea, ea] at h8
      rw [h8, hj]
end

theorem rd_list {α : Type} {rep : List Value → α → Prop} {Q : Nat → List Value → Prop} (n : Nat) (h : ∀ i, i < n → ∃ cs, Q i cs ∧ ∃ x, rep cs x) :
    ∃ (rows : List (List Value)) (l : List α), rows.length = n ∧ l.length = n ∧ (∀ (i : Nat) (r : List Value), rows[i]? = some r → Q i r) ∧ ∀ (i : Nat) (r : List Value) (x : α), rows[i]? = some r → l[i]? = some x → rep r x := by
  induction n with
  | zero => exact ⟨[], [], rfl, rfl, fun i r h => by simp at h, fun i r x h => by simp at h⟩
  | succ n ih =>
    obtain ⟨rows, l, h1, h2, h3, h4⟩ := ih fun i hi => h i (by omega)
    obtain ⟨cs, hQ, x, hr⟩ := h n (by omega)
    refine ⟨rows ++ [cs], l ++ [x], by simp [h1], by simp [h2], fun i r hi => ?_, fun i r y hi hl => ?_⟩
    · by_cases e : i < rows.length
      · rw [List.getElem?_append_left e] at hi
        exact h3 i r hi
      · rw [List.getElem?_append_right (by omega)] at hi
        have : i = n := by
          have := (List.getElem?_eq_some_iff.1 hi).1
          simp at this
          omega
        subst this
        rw [h1, Nat.sub_self] at hi
        simp at hi
        subst hi
        exact hQ
    · by_cases e : i < rows.length
      · rw [List.getElem?_append_left e] at hi
        rw [List.getElem?_append_left (by omega)] at hl
        exact h4 i r y hi hl
      · rw [List.getElem?_append_right (by omega)] at hi
        rw [List.getElem?_append_right (by omega)] at hl
        have : i = n := by
          have := (List.getElem?_eq_some_iff.1 hi).1
          simp at this
          omega
        subst this
        rw [h1, Nat.sub_self] at hi
        rw [h2, Nat.sub_self] at hl
        simp at hi hl
        subst hi; subst hl
        exact hr

/-- A slice argument reads as a list. -/
theorem Rd.list {P : Program} {w : World} {t e : TypeId} {cs : List Value} {α : Type} {rep : World → List Value → α → Prop} {sz : Nat} (h : Rd P w t cs) (hu : P.underlying t = some (.slice e)) (hsz : P.cellsOf e = sz) (hp : 0 < sz)
    (hr : ∀ cs', Rd P w e cs' → ∃ x, rep w cs' x) :
    ∃ (a : Option Addr) (l : List α) (cap : Nat), cs = [.slice a l.length cap] ∧ l.length ≤ cap ∧ cap ≤ maxLen ∧ SliceAt rep sz (fun k => k < w.heap.size) w a l := by
  obtain ⟨a, len, cap, hcs, hl, hm, hrest⟩ := h.slice hu (by omega)
  rw [hsz] at hrest
  rcases hrest with h0 | ⟨b, o, rfl, hb, hrows⟩
  · subst h0
    exact ⟨a, [], cap, hcs, hl, hm, SliceAt.nil⟩
  · obtain ⟨rows, l, h1, h2, h3, h4⟩ := rd_list (rep := rep w) (Q := fun i cs' => cs'.length = sz ∧ ∀ (j : Nat) (v : Value), cs'[j]? = some v → w.cell? ⟨b, o + i * sz + j, none⟩ = some v) len
      fun i hi => by
        obtain ⟨cs', hQ, hrd⟩ := hrows i hi
        exact ⟨cs', hQ, hr cs' hrd⟩
    subst h2
    exact ⟨_, l, cap, hcs, hl, hm, rows, .inr ⟨b, o, rfl, hb, hb, h3⟩, h1, h4⟩

theorem wf_i64 {n : Int} (h : (Lit.int .i64 n).wf = true) : -9223372036854775808 ≤ n ∧ n ≤ 9223372036854775807 := by
  simp [Lit.wf, IntKind.min, IntKind.max, IntKind.signed, IntKind.bits] at h
  omega

/-- A reading with a property of each element: the reading, and the property of all. -/
theorem SliceAt.split {α : Type} {cells : α → List Value} {p : α → Prop} {sz : Nat} {R : Nat → Prop} {w : World} {a : Option Addr} {l : List α} (h : SliceAt (fun _ r x => r = cells x ∧ p x) sz R w a l) :
    SliceAt (Flat cells) sz R w a l ∧ ∀ x ∈ l, p x := by
  obtain ⟨rows, h1, h2, h3⟩ := h
  refine ⟨⟨rows, h1, h2, fun i r x hr hx => (h3 i r x hr hx).1⟩, fun x hx => ?_⟩
  obtain ⟨i, hi, rfl⟩ := List.mem_iff_getElem.1 hx
  have hr : rows[i]? = some (rows[i]'(by omega)) := List.getElem?_eq_getElem (by omega)
  exact (h3 i _ _ hr (List.getElem?_eq_getElem hi)).2

end Go.Proofs.Ytkkjjhooamlljaa
namespace Go.Proofs.Ytkkjjhooamlljaa
open Go.RowKit

theorem szTable_any (n c : Nat) (a : Option Addr) (left : Int) (h0 : 0 ≤ left) (h1 : left ≤ 1048576) (hn : n ≤ 9223372036854775807) (w : World) : Calls Try.prog 67 #[.agg #[.slice a n c], .int .i64 left] w fun e w' => e = .returned (.int .i64 (if left < n then -1 else left - n)) ∧ Mod (fun _ => False) w w' := by
  by_cases h : left < n
  · rw [if_pos h]
    go_enter Try.func67, Try.ntmps67
    go_wp2_with fail
    refine (szRuleS_any _ _ _ _ h0 h1 hn _).mono ?_
    rintro e w' ⟨rfl, rfl⟩
    rw [if_pos h]
    go_wp2
    go_ret
    exact ⟨rfl, by (repeat (first | with_reducible exact Mod.refl _ _ | with_reducible refine Mod.drewN ?_ _ | with_reducible refine Mod.drew ?_ | with_reducible refine Mod.alloc ?_ _ | ((with_reducible refine Mod.setNew ?_ ?_ _ _ _); (rotate_left; omega)) | with_reducible refine Mod.setAt ?_ _ _ _ ))⟩
  · rw [if_neg h]
    have h2 : 0 ≤ left - n := by omega
    go_enter Try.func67, Try.ntmps67
    go_wp2_with fail
    refine (szRuleS_any _ _ _ _ h0 h1 hn _).mono ?_
    rintro e w' ⟨rfl, rfl⟩
    rw [if_neg (by omega)]
    go_wp2
    go_ret
    exact ⟨rfl, by (repeat (first | with_reducible exact Mod.refl _ _ | with_reducible refine Mod.drewN ?_ _ | with_reducible refine Mod.drew ?_ | with_reducible refine Mod.alloc ?_ _ | ((with_reducible refine Mod.setNew ?_ ?_ _ _ _); (rotate_left; omega)) | with_reducible refine Mod.setAt ?_ _ _ _ ))⟩

set_option maxRecDepth 100000 in
theorem rd_Rule {w : World} {cs : List Value} (h : Rd Try.prog w 156 cs) : ∃ x : Rule, cs = x.cells := by
  obtain ⟨hl, hf⟩ := h.struct Try.underlying156
  have hl2 : cs.length = 3 := hl.trans (by kernel_rfl)
  have c1 : Try.prog.cellsOf 3 = 1 := by kernel_rfl
  match cs, hl2 with
  | [q0, q1, q2], _ =>
    obtain ⟨n0, e0, _⟩ := (hf 0 _ rfl).int Try.underlying3
    obtain ⟨n1, e1, _⟩ := (hf 1 _ rfl).int Try.underlying3
    obtain ⟨n2, e2, _⟩ := (hf 2 _ rfl).int Try.underlying3
    simp [c1] at e0 e1 e2
    exact ⟨⟨n0, n1, n2⟩, by simp [Rule.cells, e0, e1, e2]⟩
set_option maxRecDepth 100000 in
theorem rd_Table {w : World} {cs : List Value} (h : Rd Try.prog w 92 cs) : ∃ (a : Option Addr) (l : List Rule) (c : Nat), cs = [.slice a l.length c] ∧ l.length ≤ 9223372036854775807 ∧ SliceAt (Flat Rule.cells) 3 (fun k => k < w.heap.size) w a l := by
  obtain ⟨hl, hf⟩ := h.struct Try.underlying92
  have hl2 : cs.length = 1 := hl.trans (by kernel_rfl)
  have c1 : Try.prog.cellsOf 90 = 1 := by kernel_rfl
  match cs, hl2 with
  | [q0], _ =>
    obtain ⟨a, l, c, e, h1, h2, h3⟩ := (hf 0 _ rfl).list (rep := Flat Rule.cells) (sz := 3) Try.underlying90 (by kernel_rfl) (by decide) (fun cs h => rd_Rule h)
    simp [c1] at e
    unfold maxLen at h2
    exact ⟨a, l, c, by rw [e], by omega, h3⟩

/-- A table's value reads as its rules. -/
def TableAt (l : List Rule) (w : World) (v : Value) : Prop := ∃ a c, v = .agg #[.slice a l.length c] ∧ ∃ R, SliceAt (Flat Rule.cells) 3 R w a l
theorem TableAt.keep {l : List Rule} {w w' : World} {v : Value} (h : TableAt l w v) (hm : Mod (fun _ => False) w w') : TableAt l w' v := by
  obtain ⟨a, c, h1, R, h2⟩ := h
  exact ⟨a, c, h1, R, h2.flatKeep hm⟩
theorem NewTable.at {w w' : World} {l : List Rule} {en : Ending} (h : NewTable 145 w l.length (l.map Rule.cells).flatten en w') :
    ∃ v, en = .returned v ∧ TableAt l w' v ∧ Mod (fun _ => False) w w' := by
  obtain ⟨g, he, hg, hb, hm⟩ := h
  exact ⟨_, he, ⟨_, _, rfl, _, flat_of_blk hb (fun _ => rfl)⟩, hm⟩

end Go.Proofs.Ytkkjjhooamlljaa
namespace Go.Proofs.Ytkkjjhooamlljaa
open Go.RowKit

def icell (x : Int) : List Value := [.int .i64 x]
abbrev IntSlice (R : Nat → Prop) (w : World) (a : Option Addr) (l : List Int) : Prop := SliceAt (Flat icell) 1 R w a l

theorem IntSlice.get {R : Nat → Prop} {w : World} {a : Option Addr} {l : List Int} (h : IntSlice R w a l) {k : Nat} (hk : k < l.length) :
    ∃ b o x, a = some ⟨b, o, none⟩ ∧ R b ∧ b < w.heap.size ∧ Hid (l[k]? = some x) ∧ w.cell? ⟨b, o + k, none⟩ = some (.int .i64 x) := by
  obtain ⟨b, o, x, r, rfl, hR, hb, hx, hr, _, hc⟩ := SliceAt.get h hk
  obtain rfl : r = icell x := hr
  have := hc 0 _ rfl
  rw [Nat.mul_one, Nat.add_zero] at this
  exact ⟨b, o, x, rfl, hR, hb, hx, this⟩
theorem IntSlice.at {R : Nat → Prop} {w : World} {a : Option Addr} {l : List Int} (h : IntSlice R w a l) : IntsAt w a l := by
  by_cases hl : l = []
  · exact .inl hl
  · obtain ⟨b, o, x, rfl, _⟩ := h.get (List.length_pos_iff.2 hl)
    refine .inr ⟨b, o, rfl, fun i hi => ?_⟩
    obtain ⟨b', o', y, e, _, _, hy, hc⟩ := h.get hi
    simp only [Option.some.injEq, Addr.mk.injEq, and_true] at e
    obtain ⟨rfl, rfl⟩ := e
    rw [hc]
    have := hy.out
    simp [List.getD, this]
theorem icells_length (l : List Int) : (l.map icell).flatten.length = l.length * 1 := flat_length (cells := icell) (sz := 1) (fun _ => rfl) l
end Go.Proofs.Ytkkjjhooamlljaa
namespace Go.Proofs.Ytkkjjhooamlljaa
open Go.RowKit

theorem info_ints : (Try.prog.info? 3).map (fun i => (i.zero, i.size, i.bytes)) = some (some (.int .i64 0), 1, 8) := by kernel_rfl
theorem szIntS_any (n c : Nat) (a : Option Addr) (left : Int) (h0 : 0 ≤ left) (h1 : left ≤ 1048576) (hn : n ≤ 9223372036854775807) (w : World) : Calls Try.prog 66 #[.slice a n c, .int .i64 left] w fun e w' => e = .returned (.int .i64 (if left < n then -1 else left - n)) ∧ w = w' := by
  by_cases h : left < n
  · rw [if_pos h]
    have h2 : left - n < 0 := by omega
    have h3 : -9223372036854775807 ≤ left - n := by omega
    go_enter Try.func66, Try.ntmps66
    go_wp2
    go_ret
    exact ⟨rfl, rfl⟩
  · rw [if_neg h]
    have h2 : 0 ≤ left - n := by omega
    go_enter Try.func66, Try.ntmps66
    go_wp2
    go_ret
    exact ⟨rfl, rfl⟩

set_option maxRecDepth 100000 in
set_option maxHeartbeats 1000000 in
theorem eqIntS_any (l m : List Int) (a a' : Option Addr) (c c' : Nat) (R S : Nat → Prop) (w : World) (hl : l.length ≤ 9223372036854775807) (_hm : m.length ≤ 9223372036854775807) (h : IntSlice R w a l) (h' : IntSlice S w a' m) :
    Calls Try.prog 74 #[.slice a l.length c, .slice a' m.length c'] w fun e w' => e = .returned (.bool (decide (l = m))) ∧ Mod (fun _ => False) w w' := by
  have H := hid h
  have H' := hid h'
  clear h h'
  by_cases hlen : l.length = m.length
  · have hn0 : ((l.length : Int) != (m.length : Int)) = false := by simp [hlen]
    have hn1 : l.length ≤ m.length := by omega
    have hn2 : m.length ≤ l.length := by omega
    clear hlen
    go_enter Try.func74, Try.ntmps74
    go_wp2
    go_loopw [5] (fun i wr => ∃ k : Nat, k ≤ l.length ∧ i = .int .i64 k ∧ SameTo l m k ∧ Mod (fun _ => False) w wr) (fun i _ => l.length - (intOf i).toNat)
    case atStart => exact ⟨0, by omega, rfl, rfl, Mod.refl _ _⟩
    case round =>
      obtain ⟨k, hk, rfl, hsame, hmod⟩ := hrel
      by_cases hlt : k < l.length
      · obtain ⟨b, o, x, rfl, _, hbw, hx, c0⟩ := IntSlice.get (H.out.flatKeep hmod) hlt
        obtain ⟨b', o', y, rfl, _, hbw', hy, d0⟩ := IntSlice.get (H'.out.flatKeep hmod) (show k < m.length by omega)
        have hlt2 : k < m.length := by omega
        by_cases hxy : x = y
        · subst hxy
          go_wp2
          go_quiet (fail)
          go_wp2
          go_roundw
          case rel => exact ⟨k + 1, by omega, by go_num, hsame.succ hx hy, hmod.drewN _⟩
          case measure => simp [intOf]; omega
        · have hd : (x != y) = true := by simpa using hxy
          have Hxy := hid hxy
          clear hxy
          go_wp2
          go_quiet (fail)
          go_wp2
          go_ret
          exact ⟨ret_bool (decide_eq_false (ne_at hx hy Hxy.out)).symm, hmod.drewN _⟩
      · go_wp2
        go_ret
        exact ⟨ret_bool (decide_eq_true (hsame.all (by omega) (by omega))).symm, hmod⟩
  · have hn0 : ((l.length : Int) != (m.length : Int)) = true := by simp; omega
    have hne : l ≠ m := fun h => hlen (by rw [h])
    clear hlen
    go_enter Try.func74, Try.ntmps74
    go_wp2
    go_ret
    exact ⟨ret_bool (decide_eq_false hne).symm, Mod.refl _ _⟩

/-- The cells of marks from q on. -/
def IntM.marks (q : Int) : Nat → List Value
  | 0 => []
  | k + 1 => IntM.marks q k ++ icell (q + k)
theorem IntM.marks_length (q : Int) (k : Nat) : (IntM.marks q k).length = k := by
  induction k with
  | zero => simp [IntM.marks]
  | succ k ih => simp [IntM.marks, icell, ih]

set_option maxRecDepth 100000 in
set_option maxHeartbeats 1000000 in
theorem markIntS_any (n c : Nat) (a : Option Addr) (g N : Nat) (w : World) (q0 : Int) (hq0 : 1 ≤ q0) (hq1 : q0 ≤ 1000000000000000) (hn : n ≤ 1048577) (h : n = 0 ∨ a = some ⟨g, 0, none⟩ ∧ n * 1 ≤ N ∧ Filled g 3 N w []) :
    Calls Try.prog 62 #[.slice a n c, .int .i64 q0] w fun e w' => e = .returned (.int .i64 (q0 + n)) ∧ Mod (fun k => k = g) w w' ∧ (n = 0 ∨ Filled g 3 N w' (IntM.marks q0 n)) := by
  have H := hid h
  clear h
  have hgs : n = 0 ∨ g < w.heap.size := by
    rcases H.out with h | ⟨_, _, h⟩
    · exact .inl h
    · exact .inr h.size
  go_enter Try.func62, Try.ntmps62
  go_wp2
  go_loopw [1, 5] (fun z i wr => ∃ (k : Nat) (q : Int), k ≤ n ∧ z = .int .i64 q ∧ Hid (q = q0 + k) ∧ 1 ≤ q ∧ q ≤ 10000000000000000 ∧ i = .int .i64 k ∧ Mod (fun k => k = g) w wr ∧ (n = 0 ∨ Filled g 3 N wr (IntM.marks q0 k))) (fun _ i _ => n - (intOf i).toNat)
  case atStart =>
    refine ⟨0, q0, by omega, rfl, by show q0 = q0 + _; omega, by omega, by omega, rfl, Mod.refl _ _, ?_⟩
    rcases H.out with h | ⟨_, _, h⟩
    · exact .inl h
    · exact .inr h
  case round =>
    obtain ⟨k, q, hk, rfl, hq, q1, q2, rfl, hM, hF0⟩ := hrel
    by_cases hlt : k < n
    · rcases H.out with h | ⟨rfl, hN, _⟩
      · omega
      have hF := hF0.resolve_left (by omega)
      clear hF0
      have hF1 := hF
      have hM1 := hM
      have hl0 := IntM.marks_length q0 k
      obtain ⟨v0, d0⟩ := hF1.cell (off := k) (by omega)
      have z0 := hF1.free k
      have HF := hid hF1
      have Hl0 := hid hl0
      clear hF hF1 hl0 hM
      go_wp2
      go_roundw
      case rel =>
        have hq' := hq.out
        refine ⟨k + 1, q + 1, by omega, rfl, by show q + 1 = _; omega, by omega, by omega, by go_num, by (repeat (first | with_reducible exact Mod.refl _ _ | with_reducible refine Mod.drewN ?_ _ | with_reducible refine Mod.drew ?_ | with_reducible refine Mod.alloc ?_ _ | ((with_reducible refine Mod.setNew ?_ ?_ _ _ _); (rotate_left; omega)) | with_reducible refine Mod.setAt ?_ _ _ _ | with_reducible exact hM1 | with_reducible refine Mod.thenNone ?_ hM1 )), .inr ?_⟩
        have e : IntM.marks q0 (k + 1) = IntM.marks q0 k ++ [.int .i64 q] := by
          simp [IntM.marks, icell, ← hq']
        rw [e]
        exact HF.out.push (by simp [Hl0.out]) (by omega) _
      case measure => simp [intOf]; omega
    · have hk' : k = n := by omega
      subst hk'
      go_wp2
      go_ret
      exact ⟨ret_int hq.out, hM, hF0⟩

theorem IntM.marks_at (q0 : Int) (n k : Nat) (hk : k < n) : (IntM.marks q0 n)[k]? = some (.int .i64 (q0 + k)) := by
  induction n with
  | zero => omega
  | succ n ih =>
    have hl := IntM.marks_length q0 n
    unfold IntM.marks
    by_cases e : k = n
    · subst e
      rw [List.getElem?_append_right (by omega), hl, Nat.sub_self]
      rfl
    · rw [List.getElem?_append_left (by rw [hl]; omega)]
      exact ih (by omega)

set_option maxRecDepth 100000 in
set_option maxHeartbeats 1000000 in
theorem heldIntS_any (n c : Nat) (a : Option Addr) (g N : Nat) (w : World) (q0 : Int) (hq0 : 1 ≤ q0) (hq1 : q0 ≤ 1000000000000000) (hn : n ≤ 1048577) (h : n = 0 ∨ a = some ⟨g, 0, none⟩ ∧ n * 1 ≤ N ∧ Filled g 3 N w (IntM.marks q0 n)) :
    Calls Try.prog 64 #[.slice a n c, .int .i64 q0] w fun e w' => e = .returned (.int .i64 (q0 + n)) ∧ Mod (fun _ => False) w w' := by
  have H := hid h
  clear h
  go_enter Try.func64, Try.ntmps64
  go_wp2
  go_loopw [1, 5] (fun z i wr => ∃ (k : Nat) (q : Int), k ≤ n ∧ z = .int .i64 q ∧ Hid (q = q0 + k) ∧ 1 ≤ q ∧ q ≤ 10000000000000000 ∧ i = .int .i64 k ∧ Mod (fun _ => False) w wr) (fun _ i _ => n - (intOf i).toNat)
  case atStart => exact ⟨0, q0, by omega, rfl, by show q0 = q0 + _; omega, by omega, by omega, rfl, Mod.refl _ _⟩
  case round =>
    obtain ⟨k, q, hk, rfl, hq, q1, q2, rfl, hM⟩ := hrel
    by_cases hlt : k < n
    · rcases H.out with h | ⟨rfl, hN, hF⟩
      · omega
      have hc := (hF.mod hM (fun f => f)).read (IntM.marks_at q0 n k hlt)
      rw [← hq.out] at hc
      clear hF
      go_wp2
      go_roundw
      case rel => exact ⟨k + 1, q + 1, by omega, rfl, by have := hq.out; show q + 1 = _; omega, by omega, by have := hq.out; omega, by go_num, hM⟩
      case measure => simp [intOf]; omega
    · have hk' : k = n := by omega
      subst hk'
      go_wp2
      go_ret
      exact ⟨ret_int hq.out, hM⟩

set_option maxRecDepth 100000 in
set_option maxHeartbeats 1000000 in
theorem toIntS_any (l : List Int) (a : Option Addr) (c : Nat) (R : Nat → Prop) (w : World) (hl : l.length ≤ 1048576) (h : IntSlice R w a l) :
    Calls Try.prog 69 #[.slice a l.length c] w (NewRows 3 w l.length (l.map icell).flatten) := by
  have H := hid h
  clear h
  obtain ⟨i0, hi, hz0, hz1, hz2⟩ := info_parts info_ints
  have hmk : ∀ W : World, (Instr.makeSlice 81 (.int .i64 (l.length : Int)) (.int .i64 (l.length : Int))).run Try.prog W = .ok (.slice (some ⟨W.heap.size, 0, none⟩) l.length l.length) (W.alloc (.cells (madeCells (Value.cells (.int .i64 0)) (l.length * 1)) 3)) := by
    intro W
    have := run_make (P := Try.prog) W 81 3 i0 _ Try.underlying81 hi hz0 .i64 .i64 l.length l.length (by omega) (by omega) (by rw [hz2]; omega) (by omega)
    simpa [hz1] using this
  clear hz0 hz1 hz2 hi
  go_enter Try.func69, Try.ntmps69
  go_wp2
  go_loopw [4] (fun i wr => ∃ k : Nat, k ≤ l.length ∧ i = .int .i64 k ∧ Filled w.heap.size 3 l.length wr ((l.take k).map icell).flatten ∧ Mod (fun _ => False) w wr) (fun i _ => l.length - (intOf i).toNat)
  case atStart => exact ⟨0, by omega, rfl, Filled.made w _ _ _ (size_madeCells _ _), (Mod.refl _ w).alloc _⟩
  case round =>
    obtain ⟨k, hk, rfl, hF, hM⟩ := hrel
    clear hmk
    by_cases hlt : k < l.length
    · obtain ⟨b, o, x, rfl, _, hbw, hx, c0⟩ := IntSlice.get (H.out.flatKeep hM) hlt
      obtain ⟨v0, d0⟩ := hF.cell (off := k) (by omega)
      have z0 := hF.free k
      have HF := hid hF
      clear hF
      go_wp2
      go_roundw
      case rel =>
        refine ⟨k + 1, by omega, by go_num, ?_, ?_⟩
        · have hl0 := icells_length (l.take k)
          rw [take_length_of_lt hk] at hl0
          rw [flat_succ hx]
          exact HF.out.push (by rw [hl0]; omega) (by omega) _
        · (repeat (first | with_reducible exact Mod.refl _ _ | with_reducible refine Mod.drewN ?_ _ | with_reducible refine Mod.drew ?_ | with_reducible refine Mod.alloc ?_ _ | ((with_reducible refine Mod.setNew ?_ ?_ _ _ _); (rotate_left; omega)) | with_reducible refine Mod.setAt ?_ _ _ _ | with_reducible exact hM | with_reducible refine Mod.thenNone ?_ hM ))
      case measure => simp [intOf]; omega
    · have hk' : k = l.length := by omega
      subst hk'
      go_wp2
      go_ret
      refine ⟨w.heap.size, rfl, Nat.le_refl _, ?_, hM⟩
      rw [List.take_length] at hF
      exact hF.full (by rw [icells_length, Nat.mul_one])

end Go.Proofs.Ytkkjjhooamlljaa
namespace Go.Proofs.Ytkkjjhooamlljaa
open Go.RowKit

structure Node where
  up : Int
  kids : List Int
  style : Style
  measured : Bool
  rules : List Rule
  deriving DecidableEq, Inhabited
/-- A node's cells: two slices among them. -/
def nodeRow (up : Int) (k : Option Addr) (n c : Nat) (s : Style) (m : Bool) (t : Option Addr) (n' c' : Nat) : List Value := [.int .i64 up, .slice k n c] ++ s.cells ++ [.bool m, .slice t n' c']

section
variable (up : Int) (k : Option Addr) (n c : Nat) (s : Style) (m : Bool) (t : Option Addr) (n' c' : Nat)
theorem nodeRow_len : (nodeRow up k n c s m t n' c').length = 64 := rfl
theorem nodeRow_ones : (nodeRow up k n c s m t n' c').toArray.all (·.oneCell') = true := by simp [nodeRow, Style.cells, Value.oneCell']
@[go_sem] theorem nodeRow_0 : (nodeRow up k n c s m t n' c')[0]? = some (.int .i64 up) := rfl
@[go_sem] theorem nodeRow_1 : (nodeRow up k n c s m t n' c')[1]? = some (.slice k n c) := rfl
@[go_sem] theorem nodeRow_62 : (nodeRow up k n c s m t n' c')[62]? = some (.bool m) := rfl
@[go_sem] theorem nodeRow_63 : (nodeRow up k n c s m t n' c')[63]? = some (.slice t n' c') := rfl
@[go_sem] theorem nodeRow_a0 : (nodeRow up k n c s m t n' c').toArray[0]? = some (.int .i64 up) := rfl
@[go_sem] theorem nodeRow_a1 : (nodeRow up k n c s m t n' c').toArray[1]? = some (.slice k n c) := rfl
@[go_sem] theorem nodeRow_a62 : (nodeRow up k n c s m t n' c').toArray[62]? = some (.bool m) := rfl
@[go_sem] theorem nodeRow_a63 : (nodeRow up k n c s m t n' c').toArray[63]? = some (.slice t n' c') := rfl
@[go_sem] theorem nodeRow_set0 (v : Int) : (nodeRow up k n c s m t n' c').set 0 (.int .i64 v) = nodeRow v k n c s m t n' c' := rfl
@[go_sem] theorem nodeRow_set1 (a : Option Addr) (p q : Nat) : (nodeRow up k n c s m t n' c').set 1 (.slice a p q) = nodeRow up a p q s m t n' c' := rfl
@[go_sem] theorem nodeRow_set62 (b : Bool) : (nodeRow up k n c s m t n' c').set 62 (.bool b) = nodeRow up k n c s b t n' c' := rfl
@[go_sem] theorem nodeRow_set63 (a : Option Addr) (p q : Nat) : (nodeRow up k n c s m t n' c').set 63 (.slice a p q) = nodeRow up k n c s m a p q := rfl
theorem nodeRow_style : ((nodeRow up k n c s m t n' c').drop 2).take 60 = s.cells := rfl
end

/-- A list written over an array from a place on. -/
theorem nodeRow_put {w : World} {b T : Nat} {up : Int} {k : Option Addr} {n c : Nat} {s s' : Style} {m : Bool} {t : Option Addr} {n' c' : Nat} (h : w.heap[b]? = some (.cells (nodeRow up k n c s m t n' c').toArray T (0, 0))) :
    (w.setCells b 2 s'.cells).heap[b]? = some (.cells (nodeRow up k n c s' m t n' c').toArray T (0, 0)) := by
  rw [setCells_heap b _ 2 w _ T (0, 0) h]
  have e := spl_mid [.int .i64 up, .slice k n c] s.cells [.bool m, .slice t n' c'] s'.cells (by rw [Style.len, Style.len])
  unfold nodeRow
  rw [← e]
  rfl
/-- A part of a block that is known whole. -/

@[go_sem] theorem cell_style_apart (w : World) (b o j : Nat) (s : Style) (h : o + 60 ≤ j) : (w.setCells b o s.cells).cell? ⟨b, j, none⟩ = w.cell? ⟨b, j, none⟩ := cell_setCells_apart b o j _ (.inr (by rw [Style.len]; exact h))

/-- Whole loads and stores of nodes and styles, as the walk meets them. -/
@[go_sem ↓] theorem exec_load_lNode (ρ : Operand → Value) (d : Option Tmp) (x : Operand) (ty : TypeId) (pos : String) (af : Array Edge) (g : Option (Nat × Bool)) (w : World) :
    (execOp ρ { dst := d, op := .load 94 x, type := ty, pos, after := af, guard := g }).run Try.prog w = LoadS Try.prog 94 (ρ x) w := rfl
@[go_sem ↓] theorem exec_load_iNode (ρ : Operand → Value) (d : Option Tmp) (x : Operand) (ty : TypeId) (pos : String) (af : Array Edge) (g : Option (Nat × Bool)) (w : World) :
    (execOp ρ { dst := d, op := .load 112 x, type := ty, pos, after := af, guard := g }).run Try.prog w = LoadS Try.prog 112 (ρ x) w := rfl
@[go_sem ↓] theorem exec_store_iNode (ρ : Operand → Value) (d : Option Tmp) (x y : Operand) (ty : TypeId) (pos : String) (af : Array Edge) (g : Option (Nat × Bool)) (w : World) :
    (execOp ρ { dst := d, op := .store 112 x y, type := ty, pos, after := af, guard := g }).run Try.prog w = StoreS Try.prog 112 (ρ x) (ρ y) w := rfl
@[go_sem] theorem LoadS_lNode {w : World} {b o : Nat} (h : hasRow w b o 64 = true) : LoadS Try.prog 94 (.pointer (some ⟨b, o, none⟩)) w = .ok (.value (.agg (rowOf w b o 64))) w := LoadS_row Try.underlying94 rfl (by kernel_rfl) h
@[go_sem] theorem LoadS_iNode {w : World} {b o : Nat} (h : hasRow w b o 64 = true) : LoadS Try.prog 112 (.pointer (some ⟨b, o, none⟩)) w = .ok (.value (.agg (rowOf w b o 64))) w := LoadS_row Try.underlying112 rfl (by kernel_rfl) h
@[go_sem] theorem StoreS_iNode {w : World} {b o : Nat} {up : Int} {k : Option Addr} {n c : Nat} {s : Style} {m : Bool} {t : Option Addr} {n' c' : Nat} (h : hasRow w b o 64 = true) (hz : openRow w b = true) :
    StoreS Try.prog 112 (.pointer (some ⟨b, o, none⟩)) (.agg (nodeRow up k n c s m t n' c').toArray) w = .ok .skip (w.setCells b o (nodeRow up k n c s m t n' c')) := StoreS_row (by kernel_rfl) h hz rfl (nodeRow_ones _ _ _ _ _ _ _ _ _)

theorem toStyle_row (x : Style) (w : World) : Calls Try.prog 70 #[.agg x.cells.toArray] w fun e w' => e = .returned (.agg x.cells.toArray) ∧ Mod (fun _ => False) w w' := toStyle_any x w
theorem eqStyle_row (x : Style) (w : World) : Calls Try.prog 75 #[.agg x.cells.toArray, .agg x.cells.toArray] w fun e w' => e = .returned (.bool true) ∧ Mod (fun _ => False) w w' := eqStyle_same x w
/-- A type's zero value, as a walk asks it. -/
theorem zero_as {P : Program} {t : TypeId} {v : Value} {n : Nat} (h : (P.info? t).map (fun i => (i.zero, i.size)) = some (some v, n)) (w : World) : (zeroValue t).run P w = .ok v w := by
  cases hq : P.info? t with
  | none => simp [hq] at h
  | some i =>
    simp [hq] at h
    simp [zeroValue, typeInfo, hq, h.1]
def Style.zero : Style := default
theorem zero_node : (Try.prog.info? 112).map (fun i => (i.zero, i.size)) = some (some (.agg (nodeRow 0 none 0 0 Style.zero false none 0 0).toArray), 64) := by kernel_rfl

end Go.Proofs.Ytkkjjhooamlljaa
namespace Go.Proofs.Ytkkjjhooamlljaa
open Go.RowKit

/-- A slice's block may be written. -/
def Wr (e sz : Nat) (R : Nat → Prop) (w : World) (a : Option Addr) (n : Nat) : Prop := n = 0 ∨ ∃ g N, a = some ⟨g, 0, none⟩ ∧ R g ∧ n * sz ≤ N ∧ Filled g e N w []
theorem Wr.mod {e sz : Nat} {R S : Nat → Prop} {w w' : World} {a : Option Addr} {n : Nat} (h : Wr e sz R w a n) (hm : Mod S w w') (hs : ∀ k, R k → ¬ S k) : Wr e sz R w' a n := by
  rcases h with h | ⟨g, N, h1, h2, h3, h4⟩
  · exact .inl h
  · exact .inr ⟨g, N, h1, h2, h3, h4.mod hm (hs g h2)⟩
theorem Wr.weaken {e sz : Nat} {R S : Nat → Prop} {w : World} {a : Option Addr} {n : Nat} (h : Wr e sz R w a n) (hs : ∀ k, k < w.heap.size → R k → S k) : Wr e sz S w a n := by
  rcases h with h | ⟨g, N, h1, h2, h3, h4⟩
  · exact .inl h
  · exact .inr ⟨g, N, h1, hs g h4.size h2, h3, h4⟩
theorem wr_of_blk {g e n sz : Nat} {w : World} {xs : List Value} {R : Nat → Prop} (hb : w.heap[g]? = some (.cells xs.toArray e (0, 0))) (hn : xs.length = n * sz) (hR : R g) : Wr e sz R w (some ⟨g, 0, none⟩) n :=
  .inr ⟨g, n * sz, rfl, hR, Nat.le_refl _, _, hb, by simpa using hn, by simp⟩
theorem Filled.none {g e N : Nat} {w : World} {xs : List Value} (h : Filled g e N w xs) : Filled g e N w [] := by
  obtain ⟨cur, h1, h2, _⟩ := h
  exact ⟨cur, h1, h2, by simp⟩
theorem Filled.ne {g g' e e' N N' : Nat} {w : World} {xs ys : List Value} (h : Filled g e N w xs) (h' : Filled g' e' N' w ys) (he : e ≠ e') : g ≠ g' := by
  rintro rfl
  obtain ⟨cur, h1, _⟩ := h
  obtain ⟨cur', h1', _⟩ := h'
  rw [h1] at h1'
  simp only [Option.some.injEq, Obj.cells.injEq] at h1'
  exact he h1'.2.1
/-- A written block stays one: a cell of it, or of another. -/
theorem Filled.set {g e N : Nat} {w : World} (h : Filled g e N w []) (b j : Nat) (s : Option Nat) (v : Value) : Filled g e N (w.setCell ⟨b, j, s⟩ v) [] := by
  obtain ⟨cur, h1, h2, _⟩ := h
  by_cases e' : g = b
  · subst e'
    cases s with
    | none => exact ⟨cur.setIfInBounds j v, by simp [World.setCell, Array.getElem?_modify, h1], by simpa using h2, by simp⟩
    | some s => exact ⟨_, by simp only [World.setCell, Array.getElem?_modify, h1]; rfl, by simp; exact h2, by simp⟩
  · exact ⟨cur, (Below.heap_setCell _ _ _ _ e').trans h1, h2, by simp⟩
theorem Wr.set {e sz : Nat} {R : Nat → Prop} {w : World} {a : Option Addr} {n : Nat} (h : Wr e sz R w a n) (b j : Nat) (s : Option Nat) (v : Value) : Wr e sz R (w.setCell ⟨b, j, s⟩ v) a n := by
  rcases h with h | ⟨g, N, h1, h2, h3, h4⟩
  · exact .inl h
  · exact .inr ⟨g, N, h1, h2, h3, h4.set b j s v⟩
/-- Behind a callee that wrote one block, and left it one that may be written. -/
theorem Filled.after {g e N n h e' N' : Nat} {w w' : World} {xs : List Value} (hf : Filled g e N w []) (hh : n = 0 ∨ Filled h e' N' w []) (hm : Mod (fun k => k = h) w w') (hp : n = 0 ∨ Filled h e' N' w' xs) (h0 : n = 0 → w = w') : Filled g e N w' [] := by
  by_cases hg : g = h
  · subst hg
    rcases hp with hp | hp
    · rw [← h0 hp]; exact hf
    · obtain ⟨cur, h1, h2, _⟩ := hf
      rcases hh with hn | ⟨cur2, h3, h4, _⟩
      · rw [← h0 hn]; exact ⟨cur, h1, h2, by simp⟩
      · rw [h1] at h3
        simp only [Option.some.injEq, Obj.cells.injEq] at h3
        obtain ⟨rfl, rfl, _⟩ := h3
        obtain ⟨cur3, h5, h6, _⟩ := hp
        exact ⟨cur3, h5, by omega, by simp⟩
  · exact hf.mod hm hg

theorem SliceAt.wide {α : Type} {cells : α → List Value} {sz : Nat} {R S : Nat → Prop} {w : World} {a : Option Addr} {l : List α} (h : SliceAt (Flat cells) sz R w a l) (hs : ∀ k, k < w.heap.size → R k → S k) : SliceAt (Flat cells) sz S w a l := by
  obtain ⟨rows, h1, h2, h3⟩ := h
  exact ⟨rows, h1.weaken hs, h2, h3⟩

theorem Filled.row {g e N : Nat} {w : World} {xs : List Value} (h : Filled g e N w xs) (off sz : Nat) (hn : off + sz ≤ N) : hasRow w g off sz = true := by
  obtain ⟨cur, h1, h2, _⟩ := h
  simp [hasRow, h1, h2, hn]
theorem Filled.open {g e N : Nat} {w : World} {xs : List Value} (h : Filled g e N w xs) : openRow w g = true := by
  obtain ⟨cur, h1, _⟩ := h
  simp [openRow, h1]
theorem Filled.pushRow {g e N : Nat} : ∀ (r : List Value) {w : World} {xs : List Value} (_ : Filled g e N w xs) {off : Nat} (_ : off = xs.length) (_ : off + r.length ≤ N), Filled g e N (w.setCells g off r) (xs ++ r)
  | [], w, xs, h, _, _, _ => by rw [List.append_nil]; exact h
  | v :: r, w, xs, h, off, ho, hn => by
    simp only [List.length_cons] at hn
    have h1 := h.push ho (by omega) v
    have h2 := Filled.pushRow r h1 (off := off + 1) (by simp [ho]) (by omega)
    have e : xs ++ v :: r = (xs ++ [v]) ++ r := by simp
    rw [e]
    exact h2

/-- What a copy of structs that hold slices hands back: its rows, each reading as its element in new blocks behind the rows' own. -/
def NewNest {α : Type} (rep : (Nat → Prop) → World → List Value → α → Prop) (e sz : Nat) (w : World) (l : List α) (en : Ending) (w' : World) : Prop :=
  ∃ g, ∃ rows : List (List Value), en = .returned (.slice (some ⟨g, 0, none⟩) l.length l.length) ∧ w.heap.size ≤ g ∧ w'.heap[g]? = some (.cells rows.flatten.toArray e (0, 0)) ∧ rows.length = l.length ∧ (∀ r ∈ rows, r.length = sz) ∧
    (∀ (i : Nat) (r : List Value) (x : α), rows[i]? = some r → l[i]? = some x → rep (fun b => w.heap.size ≤ b) w' r x) ∧ Mod (fun _ => False) w w'
theorem nest_of_blk {α : Type} {rep : World → List Value → α → Prop} {e sz g : Nat} {R : Nat → Prop} {w : World} {l : List α} {rows : List (List Value)} (hb : w.heap[g]? = some (.cells rows.flatten.toArray e (0, 0))) (hl : rows.length = l.length) (hr : ∀ r ∈ rows, r.length = sz)
    (h : ∀ (i : Nat) (r : List Value) (x : α), rows[i]? = some r → l[i]? = some x → rep w r x) (hR : R g) : SliceAt rep sz R w (some ⟨g, 0, none⟩) l :=
  ⟨rows, rowsAt_of_blk hb hr hR, hl, h⟩
/-- One row more. -/
theorem rows_succ {α : Type} {rep : World → List Value → α → Prop} {w : World} {l : List α} {k : Nat} {x : α} {rows : List (List Value)} {r : List Value} (hx : Hid (l[k]? = some x)) (hl : rows.length = k)
    (h : ∀ (i : Nat) (r : List Value) (x : α), rows[i]? = some r → l[i]? = some x → rep w r x) (hr : rep w r x) : ∀ (i : Nat) (r' : List Value) (y : α), (rows ++ [r])[i]? = some r' → l[i]? = some y → rep w r' y := by
  intro i r' y h1 h2
  by_cases hi : i < rows.length
  · rw [List.getElem?_append_left hi] at h1
    exact h i r' y h1 h2
  · have hi2 : i < (rows ++ [r]).length := (List.getElem?_eq_some_iff.1 h1).1
    simp only [List.length_append, List.length_singleton] at hi2
    have hik : i = k := by omega
    subst hik
    rw [hx.out] at h2
    simp only [Option.some.injEq] at h2
    subst h2
    rw [List.getElem?_append_right (by omega), hl, Nat.sub_self] at h1
    simp only [List.getElem?_cons_zero, Option.some.injEq] at h1
    subst h1
    exact hr
theorem lens_succ {rows : List (List Value)} {r : List Value} {sz : Nat} (h : ∀ r ∈ rows, r.length = sz) (hr : r.length = sz) : ∀ r' ∈ rows ++ [r], r'.length = sz := by
  intro r' h1
  simp only [List.mem_append, List.mem_singleton] at h1
  rcases h1 with h1 | rfl
  · exact h r' h1
  · exact hr
theorem rows_map {α : Type} {rep rep' : World → List Value → α → Prop} {w w' : World} {l : List α} {rows : List (List Value)} (h : ∀ (i : Nat) (r : List Value) (x : α), rows[i]? = some r → l[i]? = some x → rep w r x) (hr : ∀ r x, rep w r x → rep' w' r x) :
    ∀ (i : Nat) (r : List Value) (x : α), rows[i]? = some r → l[i]? = some x → rep' w' r x := fun i r x h1 h2 => hr r x (h i r x h1 h2)

/-- What a count hands back. -/
def szRes (left : Int) (n : Nat) : Int := if left < n then -1 else left - n
theorem szRes_less {left : Int} {n : Nat} (h : left < n) : szRes left n = -1 := if_pos h
theorem szRes_more {left : Int} {n : Nat} (h : (n : Int) ≤ left) : szRes left n = left - n := if_neg (by omega)
/-- Costs of the first elements. -/
def costs {α : Type} (f : α → Nat) (l : List α) : Nat := (l.map f).sum
theorem costs_succ {α : Type} (f : α → Nat) {l : List α} {k : Nat} {x : α} (hx : Hid (l[k]? = some x)) : costs f (l.take (k + 1)) = costs f (l.take k) + f x := by
  unfold costs
  rw [List.take_add_one, hx.out]
  simp
theorem costs_take {α : Type} (f : α → Nat) (l : List α) (k : Nat) : costs f (l.take k) ≤ costs f l := by
  have e : costs f l = costs f (l.take k) + costs f (l.drop k) := by
    unfold costs
    rw [← List.sum_append_nat, ← List.map_append, List.take_append_drop]
  omega
theorem costs_mem {α : Type} (f : α → Nat) {l : List α} {x : α} (h : x ∈ l) : f x ≤ costs f l := by
  unfold costs
  induction l with
  | nil => cases h
  | cons y l ih =>
    simp only [List.map_cons, List.sum_cons]
    rcases List.mem_cons.1 h with rfl | h
    · omega
    · have := ih h
      omega

/-- Blocks that may be written stay so; those whose type is not in P are as they were. -/
def KeepB (P : Nat → Prop) (w w' : World) : Prop := ∀ g e N, Filled g e N w [] → Filled g e N w' [] ∧ (¬ P e → w'.heap[g]? = w.heap[g]?)
theorem KeepB.refl (P : Nat → Prop) (w : World) : KeepB P w w := fun _ _ _ h => ⟨h, fun _ => rfl⟩
theorem KeepB.trans {P : Nat → Prop} {a b c : World} (h : KeepB P a b) (k : KeepB P b c) : KeepB P a c := fun g e N hf => by
  obtain ⟨h1, h2⟩ := h g e N hf
  obtain ⟨h3, h4⟩ := k g e N h1
  exact ⟨h3, fun hp => (h4 hp).trans (h2 hp)⟩
theorem KeepB.mono {P Q : Nat → Prop} {a b : World} (h : KeepB P a b) (hq : ∀ e, P e → Q e) : KeepB Q a b := fun g e N hf => ⟨(h g e N hf).1, fun hn => (h g e N hf).2 fun hp => hn (hq e hp)⟩
theorem KeepB.none {P : Nat → Prop} {a b : World} (h : Mod (fun _ => False) a b) : KeepB P a b := fun g _ _ hf => ⟨hf.mod h (fun f => f), fun _ => h.block g hf.size (fun f => f)⟩
theorem KeepB.set {P : Nat → Prop} {a w : World} (h : KeepB P a w) {b e N : Nat} (hb : Filled b e N a []) (he : P e) (j : Nat) (s : Option Nat) (v : Value) : KeepB P a (w.setCell ⟨b, j, s⟩ v) := fun g e' N' hf => by
  refine ⟨(h g e' N' hf).1.set b j s v, fun hn => ?_⟩
  have hg : g ≠ b := by
    rintro rfl
    refine hf.ne (g' := g) hb ?_ rfl
    rintro rfl
    exact hn he
  rw [Below.heap_setCell _ _ _ _ hg]
  exact (h g e' N' hf).2 hn
theorem Wr.keep {P : Nat → Prop} {e sz : Nat} {R : Nat → Prop} {w w' : World} {a : Option Addr} {n : Nat} (h : Wr e sz R w a n) (hk : KeepB P w w') : Wr e sz R w' a n := by
  rcases h with h | ⟨g, N, h1, h2, h3, h4⟩
  · exact .inl h
  · exact .inr ⟨g, N, h1, h2, h3, (hk g e N h4).1⟩
/-- A mark of a flat slice, told by what it leaves. -/
theorem mark_wr {P : Program} {f : FuncId} {args : Array Value} {E : Ending} {e sz n : Nat} {R : Nat → Prop} {w : World} {a : Option Addr} {ms : List Value} (h : Wr e sz R w a n)
    (hc : ∀ g N, (n = 0 ∨ a = some ⟨g, 0, none⟩ ∧ n * sz ≤ N ∧ Filled g e N w []) → Calls P f args w fun en w' => en = E ∧ Mod (fun k => k = g) w w' ∧ (n = 0 ∨ Filled g e N w' ms)) :
    Calls P f args w fun en w' => en = E ∧ Mod R w w' ∧ KeepB (fun t => t = e) w w' := by
  by_cases hn : n = 0
  · refine (hc w.heap.size 0 (.inl hn)).mono ?_
    rintro en w' ⟨he, hm, _⟩
    have hm' : Mod (fun _ => False) w w' := hm.mono (fun k hk (e : k = w.heap.size) => by omega)
    exact ⟨he, hm'.mono (fun _ _ f => f.elim), KeepB.none hm'⟩
  · rcases h with h | ⟨g, N, h1, h2, h3, h4⟩
    · exact (hn h).elim
    · refine (hc g N (.inr ⟨h1, h3, h4⟩)).mono ?_
      rintro en w' ⟨he, hm, hp⟩
      have hp' := hp.resolve_left hn
      refine ⟨he, hm.mono (fun k _ (e : k = g) => e ▸ h2), fun g' e' N' hf => ?_⟩
      by_cases hg : g' = g
      · subst hg
        obtain ⟨c1, q1, q2, _⟩ := hf
        obtain ⟨c2, q3, q4, _⟩ := h4
        rw [q1] at q3
        simp only [Option.some.injEq, Obj.cells.injEq] at q3
        obtain ⟨rfl, rfl, _⟩ := q3
        obtain ⟨c3, q5, q6, _⟩ := hp'
        exact ⟨⟨c3, q5, by omega, by simp⟩, fun hne => (hne rfl).elim⟩
      · exact ⟨hf.mod hm hg, fun _ => hm.block g' hf.size hg⟩
theorem SliceAt.wideBy {α : Type} {rep rep' : World → List Value → α → Prop} {sz : Nat} {R S : Nat → Prop} {w : World} {a : Option Addr} {l : List α} (h : SliceAt rep sz R w a l) (hs : ∀ k, k < w.heap.size → R k → S k) (hr : ∀ r x, rep w r x → rep' w r x) : SliceAt rep' sz S w a l := by
  obtain ⟨rows, h1, h2, h3⟩ := h
  exact ⟨rows, h1.weaken hs, h2, rows_map h3 hr⟩
/-- A copy, as the calls behind it use it. -/
theorem NewNest.use {α : Type} {rep : (Nat → Prop) → World → List Value → α → Prop} {e sz : Nat} {w w' : World} {l : List α} {en : Ending} (h : NewNest rep e sz w l en w') :
    ∃ g, en = .returned (.slice (some ⟨g, 0, none⟩) l.length l.length) ∧ w.heap.size ≤ g ∧ SliceAt (rep (fun b => w.heap.size ≤ b)) sz (fun b => w.heap.size ≤ b) w' (some ⟨g, 0, none⟩) l ∧ Wr e sz (fun b => w.heap.size ≤ b) w' (some ⟨g, 0, none⟩) l.length ∧ Mod (fun _ => False) w w' := by
  obtain ⟨g, rows, he, hg, hb, hl, hr, hrep, hm⟩ := h
  exact ⟨g, he, hg, nest_of_blk hb hl hr hrep hg, wr_of_blk hb (by rw [flatten_length hr, hl]) hg, hm⟩
theorem NewRows.wr {α : Type} {cells : α → List Value} {e sz : Nat} {w w' : World} {l : List α} {en : Ending} (h : NewRows e w l.length (l.map cells).flatten en w') (hc : ∀ x, (cells x).length = sz) :
    ∃ g, en = .returned (.slice (some ⟨g, 0, none⟩) l.length l.length) ∧ w.heap.size ≤ g ∧ SliceAt (Flat cells) sz (fun b => w.heap.size ≤ b) w' (some ⟨g, 0, none⟩) l ∧ Wr e sz (fun b => w.heap.size ≤ b) w' (some ⟨g, 0, none⟩) l.length ∧ Mod (fun _ => False) w w' := by
  obtain ⟨g, he, hg, hb, hm⟩ := h
  exact ⟨g, he, hg, (flat_of_blk hb hc).wide (fun k _ (hk : k = g) => hk ▸ hg), wr_of_blk hb (flat_length hc l) hg, hm⟩
theorem SliceAt.split2 {α : Type} {rep : World → List Value → α → Prop} {p : α → Prop} {sz : Nat} {R : Nat → Prop} {w : World} {a : Option Addr} {l : List α} (h : SliceAt (fun w r x => rep w r x ∧ p x) sz R w a l) : SliceAt rep sz R w a l ∧ ∀ x ∈ l, p x := by
  obtain ⟨rows, h1, h2, h3⟩ := h
  refine ⟨⟨rows, h1, h2, fun i r x hr hx => (h3 i r x hr hx).1⟩, fun x hx => ?_⟩
  obtain ⟨i, hi, rfl⟩ := List.mem_iff_getElem.1 hx
  have hr : rows[i]? = some (rows[i]'(by omega)) := List.getElem?_eq_getElem (by omega)
  exact (h3 i _ _ hr (List.getElem?_eq_getElem hi)).2

end Go.Proofs.Ytkkjjhooamlljaa
