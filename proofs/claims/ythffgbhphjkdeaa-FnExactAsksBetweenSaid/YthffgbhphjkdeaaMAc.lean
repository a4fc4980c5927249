/-
  PROVED: contracts of functions and words on memory, several texts put together: what each says stands at its theorems. Conditions: as told there.
-/
import Derived.Test.YthffgbhphjkdeaaMAb
import Derived.Test.YthffgbhphjkdeaaProg
import Derived.Test.YthffgbhphjkdeaaChecked
import Derived.Deep.QuietTactic
import Derived.BigQuiet
import Derived.Outline
import Derived.WalkLawsBesides
import Derived.Laws.OwnMore
import Derived.Deep.Onto
set_option linter.unusedVariables false
set_option linter.unusedSimpArgs false
namespace Go.Proofs.Ythffgbhphjkdeaa

instance : TOne Try.prog 2 := ⟨⟨_, Try.underlying2, rfl⟩, by kernel_rfl⟩
instance : TEl Try.prog 2 1 8 (.int .i64 0) := ⟨by kernel_rfl, rfl, by decide⟩
instance : TZero Try.prog 2 [.int .i64 0] := ⟨.int .i64 0, by kernel_rfl, rfl⟩
instance : TOne Try.prog 3 := ⟨⟨_, Try.underlying3, rfl⟩, by kernel_rfl⟩
instance : TEl Try.prog 3 1 8 (.int .i64 0) := ⟨by kernel_rfl, rfl, by decide⟩
instance : TZero Try.prog 3 [.int .i64 0] := ⟨.int .i64 0, by kernel_rfl, rfl⟩
instance : TOne Try.prog 4 := ⟨⟨_, Try.underlying4, rfl⟩, by kernel_rfl⟩
instance : TBool Try.prog 4 := ⟨Try.underlying4⟩
instance : TEl Try.prog 4 1 1 (.bool false) := ⟨by kernel_rfl, rfl, by decide⟩
instance : TZero Try.prog 4 [.bool false] := ⟨.bool false, by kernel_rfl, rfl⟩
instance : TOne Try.prog 5 := ⟨⟨_, Try.underlying5, rfl⟩, by kernel_rfl⟩
instance : TEl Try.prog 5 1 1 (.int .u8 0) := ⟨by kernel_rfl, rfl, by decide⟩
instance : TZero Try.prog 5 [.int .u8 0] := ⟨.int .u8 0, by kernel_rfl, rfl⟩
instance : TOne Try.prog 6 := ⟨⟨_, Try.underlying6, rfl⟩, by kernel_rfl⟩
instance : TEl Try.prog 6 1 1 (.int .u8 0) := ⟨by kernel_rfl, rfl, by decide⟩
instance : TZero Try.prog 6 [.int .u8 0] := ⟨.int .u8 0, by kernel_rfl, rfl⟩
instance : TRow Try.prog 7 4 := ⟨⟨_, Try.underlying7, rfl⟩, by kernel_rfl⟩
instance : TFld Try.prog 7 0 0 := ⟨_, _, 0, Try.underlying7, rfl, rfl, by kernel_rfl⟩
instance : TFld Try.prog 7 1 1 := ⟨_, _, 0, Try.underlying7, rfl, rfl, by kernel_rfl⟩
instance : TFld Try.prog 7 2 2 := ⟨_, _, 0, Try.underlying7, rfl, rfl, by kernel_rfl⟩
instance : TFld Try.prog 7 3 3 := ⟨_, _, 0, Try.underlying7, rfl, rfl, by kernel_rfl⟩
instance : TEl Try.prog 7 4 24 (.agg #[.int .i64 0, .int .i64 0, .bool false, .int .u8 0]) := ⟨by kernel_rfl, rfl, by decide⟩
instance : TZero Try.prog 7 [.int .i64 0, .int .i64 0, .bool false, .int .u8 0] := ⟨.agg #[.int .i64 0, .int .i64 0, .bool false, .int .u8 0], by kernel_rfl, rfl⟩
instance : TRow Try.prog 8 4 := ⟨⟨_, Try.underlying8, rfl⟩, by kernel_rfl⟩
instance : TFld Try.prog 8 0 0 := ⟨_, _, 0, Try.underlying8, rfl, rfl, by kernel_rfl⟩
instance : TFld Try.prog 8 1 1 := ⟨_, _, 0, Try.underlying8, rfl, rfl, by kernel_rfl⟩
instance : TFld Try.prog 8 2 2 := ⟨_, _, 0, Try.underlying8, rfl, rfl, by kernel_rfl⟩
instance : TFld Try.prog 8 3 3 := ⟨_, _, 0, Try.underlying8, rfl, rfl, by kernel_rfl⟩
instance : TEl Try.prog 8 4 24 (.agg #[.int .i64 0, .int .i64 0, .bool false, .int .u8 0]) := ⟨by kernel_rfl, rfl, by decide⟩
instance : TZero Try.prog 8 [.int .i64 0, .int .i64 0, .bool false, .int .u8 0] := ⟨.agg #[.int .i64 0, .int .i64 0, .bool false, .int .u8 0], by kernel_rfl, rfl⟩
instance : TOne Try.prog 9 := ⟨⟨_, Try.underlying9, rfl⟩, by kernel_rfl⟩
instance : TStr Try.prog 9 := ⟨Try.underlying9⟩
instance : TEl Try.prog 9 1 16 (.string ⟨#[]⟩) := ⟨by kernel_rfl, rfl, by decide⟩
instance : TZero Try.prog 9 [.string ⟨#[]⟩] := ⟨.string ⟨#[]⟩, by kernel_rfl, rfl⟩
instance : TOne Try.prog 10 := ⟨⟨_, Try.underlying10, rfl⟩, by kernel_rfl⟩
instance : TStr Try.prog 10 := ⟨Try.underlying10⟩
instance : TEl Try.prog 10 1 16 (.string ⟨#[]⟩) := ⟨by kernel_rfl, rfl, by decide⟩
instance : TZero Try.prog 10 [.string ⟨#[]⟩] := ⟨.string ⟨#[]⟩, by kernel_rfl, rfl⟩
instance : TOne Try.prog 11 := ⟨⟨_, Try.underlying11, rfl⟩, by kernel_rfl⟩
instance : TStr Try.prog 11 := ⟨Try.underlying11⟩
instance : TEl Try.prog 11 1 16 (.string ⟨#[]⟩) := ⟨by kernel_rfl, rfl, by decide⟩
instance : TZero Try.prog 11 [.string ⟨#[]⟩] := ⟨.string ⟨#[]⟩, by kernel_rfl, rfl⟩
instance : TOne Try.prog 12 := ⟨⟨_, Try.underlying12, rfl⟩, by kernel_rfl⟩
instance : TEl Try.prog 12 1 8 (.int .u64 0) := ⟨by kernel_rfl, rfl, by decide⟩
instance : TZero Try.prog 12 [.int .u64 0] := ⟨.int .u64 0, by kernel_rfl, rfl⟩
instance : TRow Try.prog 13 2 := ⟨⟨_, Try.underlying13, rfl⟩, by kernel_rfl⟩
instance : TFld Try.prog 13 0 0 := ⟨_, _, 0, Try.underlying13, rfl, rfl, by kernel_rfl⟩
instance : TFld Try.prog 13 1 1 := ⟨_, _, 0, Try.underlying13, rfl, rfl, by kernel_rfl⟩
instance : TEl Try.prog 13 2 24 (.agg #[.string ⟨#[]⟩, .int .u64 0]) := ⟨by kernel_rfl, rfl, by decide⟩
instance : TZero Try.prog 13 [.string ⟨#[]⟩, .int .u64 0] := ⟨.agg #[.string ⟨#[]⟩, .int .u64 0], by kernel_rfl, rfl⟩
instance : TRow Try.prog 14 2 := ⟨⟨_, Try.underlying14, rfl⟩, by kernel_rfl⟩
instance : TFld Try.prog 14 0 0 := ⟨_, _, 0, Try.underlying14, rfl, rfl, by kernel_rfl⟩
instance : TFld Try.prog 14 1 1 := ⟨_, _, 0, Try.underlying14, rfl, rfl, by kernel_rfl⟩
instance : TEl Try.prog 14 2 24 (.agg #[.string ⟨#[]⟩, .int .u64 0]) := ⟨by kernel_rfl, rfl, by decide⟩
instance : TZero Try.prog 14 [.string ⟨#[]⟩, .int .u64 0] := ⟨.agg #[.string ⟨#[]⟩, .int .u64 0], by kernel_rfl, rfl⟩
instance : TOne Try.prog 15 := ⟨⟨_, Try.underlying15, rfl⟩, by kernel_rfl⟩
instance : TPtr Try.prog 15 := ⟨⟨_, Try.underlying15⟩⟩
instance : TEl Try.prog 15 1 8 (.pointer none) := ⟨by kernel_rfl, rfl, by decide⟩
instance : TZero Try.prog 15 [.pointer none] := ⟨.pointer none, by kernel_rfl, rfl⟩
instance : TOne Try.prog 16 := ⟨⟨_, Try.underlying16, rfl⟩, by kernel_rfl⟩
instance : TPtr Try.prog 16 := ⟨⟨_, Try.underlying16⟩⟩
instance : TEl Try.prog 16 1 8 (.pointer none) := ⟨by kernel_rfl, rfl, by decide⟩
instance : TZero Try.prog 16 [.pointer none] := ⟨.pointer none, by kernel_rfl, rfl⟩
instance : TOne Try.prog 17 := ⟨⟨_, Try.underlying17, rfl⟩, by kernel_rfl⟩
instance : TPtr Try.prog 17 := ⟨⟨_, Try.underlying17⟩⟩
instance : TEl Try.prog 17 1 8 (.pointer none) := ⟨by kernel_rfl, rfl, by decide⟩
instance : TZero Try.prog 17 [.pointer none] := ⟨.pointer none, by kernel_rfl, rfl⟩
instance : TRow Try.prog 18 1 := ⟨⟨_, Try.underlying18, rfl⟩, by kernel_rfl⟩
instance : TFld Try.prog 18 0 0 := ⟨_, _, 0, Try.underlying18, rfl, rfl, by kernel_rfl⟩
instance : TEl Try.prog 18 1 8 (.agg #[.pointer none]) := ⟨by kernel_rfl, rfl, by decide⟩
instance : TZero Try.prog 18 [.pointer none] := ⟨.agg #[.pointer none], by kernel_rfl, rfl⟩
instance : TRow Try.prog 19 1 := ⟨⟨_, Try.underlying19, rfl⟩, by kernel_rfl⟩
instance : TFld Try.prog 19 0 0 := ⟨_, _, 0, Try.underlying19, rfl, rfl, by kernel_rfl⟩
instance : TEl Try.prog 19 1 8 (.agg #[.pointer none]) := ⟨by kernel_rfl, rfl, by decide⟩
instance : TZero Try.prog 19 [.pointer none] := ⟨.agg #[.pointer none], by kernel_rfl, rfl⟩
instance : TOne Try.prog 21 := ⟨⟨_, Try.underlying21, rfl⟩, by kernel_rfl⟩
instance : TEl Try.prog 21 1 4 (.int .i32 0) := ⟨by kernel_rfl, rfl, by decide⟩
instance : TZero Try.prog 21 [.int .i32 0] := ⟨.int .i32 0, by kernel_rfl, rfl⟩
instance : TOne Try.prog 22 := ⟨⟨_, Try.underlying22, rfl⟩, by kernel_rfl⟩
instance : TSl Try.prog 22 167 64 := ⟨Try.underlying22, by kernel_rfl⟩
instance : TEl Try.prog 22 1 24 (.slice none 0 0) := ⟨by kernel_rfl, rfl, by decide⟩
instance : TZero Try.prog 22 [.slice none 0 0] := ⟨.slice none 0 0, by kernel_rfl, rfl⟩
instance : TRow Try.prog 23 1 := ⟨⟨_, Try.underlying23, rfl⟩, by kernel_rfl⟩
instance : TFld Try.prog 23 0 0 := ⟨_, _, 0, Try.underlying23, rfl, rfl, by kernel_rfl⟩
instance : TEl Try.prog 23 1 24 (.agg #[.slice none 0 0]) := ⟨by kernel_rfl, rfl, by decide⟩
instance : TZero Try.prog 23 [.slice none 0 0] := ⟨.agg #[.slice none 0 0], by kernel_rfl, rfl⟩
instance : TRow Try.prog 24 1 := ⟨⟨_, Try.underlying24, rfl⟩, by kernel_rfl⟩
instance : TFld Try.prog 24 0 0 := ⟨_, _, 0, Try.underlying24, rfl, rfl, by kernel_rfl⟩
instance : TEl Try.prog 24 1 24 (.agg #[.slice none 0 0]) := ⟨by kernel_rfl, rfl, by decide⟩
instance : TZero Try.prog 24 [.slice none 0 0] := ⟨.agg #[.slice none 0 0], by kernel_rfl, rfl⟩
instance : TOne Try.prog 25 := ⟨⟨_, Try.underlying25, rfl⟩, by kernel_rfl⟩
instance : TSl Try.prog 25 173 10 := ⟨Try.underlying25, by kernel_rfl⟩
instance : TEl Try.prog 25 1 24 (.slice none 0 0) := ⟨by kernel_rfl, rfl, by decide⟩
instance : TZero Try.prog 25 [.slice none 0 0] := ⟨.slice none 0 0, by kernel_rfl, rfl⟩
instance : TOne Try.prog 26 := ⟨⟨_, Try.underlying26, rfl⟩, by kernel_rfl⟩
instance : TSl Try.prog 26 182 6 := ⟨Try.underlying26, by kernel_rfl⟩
instance : TEl Try.prog 26 1 24 (.slice none 0 0) := ⟨by kernel_rfl, rfl, by decide⟩
instance : TZero Try.prog 26 [.slice none 0 0] := ⟨.slice none 0 0, by kernel_rfl, rfl⟩
instance : TRow Try.prog 27 2 := ⟨⟨_, Try.underlying27, rfl⟩, by kernel_rfl⟩
instance : TFld Try.prog 27 0 0 := ⟨_, _, 0, Try.underlying27, rfl, rfl, by kernel_rfl⟩
instance : TFld Try.prog 27 1 1 := ⟨_, _, 0, Try.underlying27, rfl, rfl, by kernel_rfl⟩
instance : TEl Try.prog 27 2 48 (.agg #[.slice none 0 0, .slice none 0 0]) := ⟨by kernel_rfl, rfl, by decide⟩
instance : TZero Try.prog 27 [.slice none 0 0, .slice none 0 0] := ⟨.agg #[.slice none 0 0, .slice none 0 0], by kernel_rfl, rfl⟩
instance : TRow Try.prog 28 2 := ⟨⟨_, Try.underlying28, rfl⟩, by kernel_rfl⟩
instance : TFld Try.prog 28 0 0 := ⟨_, _, 0, Try.underlying28, rfl, rfl, by kernel_rfl⟩
instance : TFld Try.prog 28 1 1 := ⟨_, _, 0, Try.underlying28, rfl, rfl, by kernel_rfl⟩
instance : TEl Try.prog 28 2 48 (.agg #[.slice none 0 0, .slice none 0 0]) := ⟨by kernel_rfl, rfl, by decide⟩
instance : TZero Try.prog 28 [.slice none 0 0, .slice none 0 0] := ⟨.agg #[.slice none 0 0, .slice none 0 0], by kernel_rfl, rfl⟩
instance : TOne Try.prog 29 := ⟨⟨_, Try.underlying29, rfl⟩, by kernel_rfl⟩
instance : TSl Try.prog 29 134 5 := ⟨Try.underlying29, by kernel_rfl⟩
instance : TEl Try.prog 29 1 24 (.slice none 0 0) := ⟨by kernel_rfl, rfl, by decide⟩
instance : TZero Try.prog 29 [.slice none 0 0] := ⟨.slice none 0 0, by kernel_rfl, rfl⟩
instance : TRow Try.prog 30 8 := ⟨⟨_, Try.underlying30, rfl⟩, by kernel_rfl⟩
instance : TFld Try.prog 30 0 0 := ⟨_, _, 0, Try.underlying30, rfl, rfl, by kernel_rfl⟩
instance : TFld Try.prog 30 1 1 := ⟨_, _, 1, Try.underlying30, rfl, rfl, by kernel_rfl⟩
instance : TFld Try.prog 30 2 3 := ⟨_, _, 0, Try.underlying30, rfl, rfl, by kernel_rfl⟩
instance : TFld Try.prog 30 3 4 := ⟨_, _, 0, Try.underlying30, rfl, rfl, by kernel_rfl⟩
instance : TFld Try.prog 30 4 5 := ⟨_, _, 0, Try.underlying30, rfl, rfl, by kernel_rfl⟩
instance : TFld Try.prog 30 5 6 := ⟨_, _, 0, Try.underlying30, rfl, rfl, by kernel_rfl⟩
instance : TFld Try.prog 30 6 7 := ⟨_, _, 0, Try.underlying30, rfl, rfl, by kernel_rfl⟩
instance : TEl Try.prog 30 8 128 (.agg #[.slice none 0 0, .slice none 0 0, .slice none 0 0, .slice none 0 0, .int .i64 0, .int .i64 0, .int .i64 0, .bool false]) := ⟨by kernel_rfl, rfl, by decide⟩
instance : TZero Try.prog 30 [.slice none 0 0, .slice none 0 0, .slice none 0 0, .slice none 0 0, .int .i64 0, .int .i64 0, .int .i64 0, .bool false] := ⟨.agg #[.slice none 0 0, .slice none 0 0, .slice none 0 0, .slice none 0 0, .int .i64 0, .int .i64 0, .int .i64 0, .bool false], by kernel_rfl, rfl⟩
instance : TRow Try.prog 31 8 := ⟨⟨_, Try.underlying31, rfl⟩, by kernel_rfl⟩
instance : TFld Try.prog 31 0 0 := ⟨_, _, 0, Try.underlying31, rfl, rfl, by kernel_rfl⟩
instance : TFld Try.prog 31 1 1 := ⟨_, _, 1, Try.underlying31, rfl, rfl, by kernel_rfl⟩
instance : TFld Try.prog 31 2 3 := ⟨_, _, 0, Try.underlying31, rfl, rfl, by kernel_rfl⟩
instance : TFld Try.prog 31 3 4 := ⟨_, _, 0, Try.underlying31, rfl, rfl, by kernel_rfl⟩
instance : TFld Try.prog 31 4 5 := ⟨_, _, 0, Try.underlying31, rfl, rfl, by kernel_rfl⟩
instance : TFld Try.prog 31 5 6 := ⟨_, _, 0, Try.underlying31, rfl, rfl, by kernel_rfl⟩
instance : TFld Try.prog 31 6 7 := ⟨_, _, 0, Try.underlying31, rfl, rfl, by kernel_rfl⟩
instance : TEl Try.prog 31 8 128 (.agg #[.slice none 0 0, .slice none 0 0, .slice none 0 0, .slice none 0 0, .int .i64 0, .int .i64 0, .int .i64 0, .bool false]) := ⟨by kernel_rfl, rfl, by decide⟩
instance : TZero Try.prog 31 [.slice none 0 0, .slice none 0 0, .slice none 0 0, .slice none 0 0, .int .i64 0, .int .i64 0, .int .i64 0, .bool false] := ⟨.agg #[.slice none 0 0, .slice none 0 0, .slice none 0 0, .slice none 0 0, .int .i64 0, .int .i64 0, .int .i64 0, .bool false], by kernel_rfl, rfl⟩
instance : TOne Try.prog 33 := ⟨⟨_, Try.underlying33, rfl⟩, by kernel_rfl⟩
instance : TSl Try.prog 33 101 6 := ⟨Try.underlying33, by kernel_rfl⟩
instance : TEl Try.prog 33 1 24 (.slice none 0 0) := ⟨by kernel_rfl, rfl, by decide⟩
instance : TZero Try.prog 33 [.slice none 0 0] := ⟨.slice none 0 0, by kernel_rfl, rfl⟩
instance : TOne Try.prog 35 := ⟨⟨_, Try.underlying35, rfl⟩, by kernel_rfl⟩
instance : TSl Try.prog 35 86 64 := ⟨Try.underlying35, by kernel_rfl⟩
instance : TEl Try.prog 35 1 24 (.slice none 0 0) := ⟨by kernel_rfl, rfl, by decide⟩
instance : TZero Try.prog 35 [.slice none 0 0] := ⟨.slice none 0 0, by kernel_rfl, rfl⟩
instance : TRow Try.prog 36 1 := ⟨⟨_, Try.underlying36, rfl⟩, by kernel_rfl⟩
instance : TFld Try.prog 36 0 0 := ⟨_, _, 0, Try.underlying36, rfl, rfl, by kernel_rfl⟩
instance : TEl Try.prog 36 1 24 (.agg #[.slice none 0 0]) := ⟨by kernel_rfl, rfl, by decide⟩
instance : TZero Try.prog 36 [.slice none 0 0] := ⟨.agg #[.slice none 0 0], by kernel_rfl, rfl⟩
instance : TRow Try.prog 37 1 := ⟨⟨_, Try.underlying37, rfl⟩, by kernel_rfl⟩
instance : TFld Try.prog 37 0 0 := ⟨_, _, 0, Try.underlying37, rfl, rfl, by kernel_rfl⟩
instance : TEl Try.prog 37 1 24 (.agg #[.slice none 0 0]) := ⟨by kernel_rfl, rfl, by decide⟩
instance : TZero Try.prog 37 [.slice none 0 0] := ⟨.agg #[.slice none 0 0], by kernel_rfl, rfl⟩
instance : TOne Try.prog 38 := ⟨⟨_, Try.underlying38, rfl⟩, by kernel_rfl⟩
instance : TSl Try.prog 38 178 10 := ⟨Try.underlying38, by kernel_rfl⟩
instance : TEl Try.prog 38 1 24 (.slice none 0 0) := ⟨by kernel_rfl, rfl, by decide⟩
instance : TZero Try.prog 38 [.slice none 0 0] := ⟨.slice none 0 0, by kernel_rfl, rfl⟩
instance : TRow Try.prog 39 2 := ⟨⟨_, Try.underlying39, rfl⟩, by kernel_rfl⟩
instance : TFld Try.prog 39 0 0 := ⟨_, _, 0, Try.underlying39, rfl, rfl, by kernel_rfl⟩
instance : TFld Try.prog 39 1 1 := ⟨_, _, 0, Try.underlying39, rfl, rfl, by kernel_rfl⟩
instance : TEl Try.prog 39 2 48 (.agg #[.slice none 0 0, .slice none 0 0]) := ⟨by kernel_rfl, rfl, by decide⟩
instance : TZero Try.prog 39 [.slice none 0 0, .slice none 0 0] := ⟨.agg #[.slice none 0 0, .slice none 0 0], by kernel_rfl, rfl⟩
instance : TRow Try.prog 40 2 := ⟨⟨_, Try.underlying40, rfl⟩, by kernel_rfl⟩
instance : TFld Try.prog 40 0 0 := ⟨_, _, 0, Try.underlying40, rfl, rfl, by kernel_rfl⟩
instance : TFld Try.prog 40 1 1 := ⟨_, _, 0, Try.underlying40, rfl, rfl, by kernel_rfl⟩
instance : TEl Try.prog 40 2 48 (.agg #[.slice none 0 0, .slice none 0 0]) := ⟨by kernel_rfl, rfl, by decide⟩
instance : TZero Try.prog 40 [.slice none 0 0, .slice none 0 0] := ⟨.agg #[.slice none 0 0, .slice none 0 0], by kernel_rfl, rfl⟩
instance : TOne Try.prog 41 := ⟨⟨_, Try.underlying41, rfl⟩, by kernel_rfl⟩
instance : TSl Try.prog 41 132 5 := ⟨Try.underlying41, by kernel_rfl⟩
instance : TEl Try.prog 41 1 24 (.slice none 0 0) := ⟨by kernel_rfl, rfl, by decide⟩
instance : TZero Try.prog 41 [.slice none 0 0] := ⟨.slice none 0 0, by kernel_rfl, rfl⟩
instance : TRow Try.prog 42 8 := ⟨⟨_, Try.underlying42, rfl⟩, by kernel_rfl⟩
instance : TFld Try.prog 42 0 0 := ⟨_, _, 0, Try.underlying42, rfl, rfl, by kernel_rfl⟩
instance : TFld Try.prog 42 1 1 := ⟨_, _, 1, Try.underlying42, rfl, rfl, by kernel_rfl⟩
instance : TFld Try.prog 42 2 3 := ⟨_, _, 0, Try.underlying42, rfl, rfl, by kernel_rfl⟩
instance : TFld Try.prog 42 3 4 := ⟨_, _, 0, Try.underlying42, rfl, rfl, by kernel_rfl⟩
instance : TFld Try.prog 42 4 5 := ⟨_, _, 0, Try.underlying42, rfl, rfl, by kernel_rfl⟩
instance : TFld Try.prog 42 5 6 := ⟨_, _, 0, Try.underlying42, rfl, rfl, by kernel_rfl⟩
instance : TFld Try.prog 42 6 7 := ⟨_, _, 0, Try.underlying42, rfl, rfl, by kernel_rfl⟩
instance : TEl Try.prog 42 8 128 (.agg #[.slice none 0 0, .slice none 0 0, .slice none 0 0, .slice none 0 0, .int .i64 0, .int .i64 0, .int .i64 0, .bool false]) := ⟨by kernel_rfl, rfl, by decide⟩
instance : TZero Try.prog 42 [.slice none 0 0, .slice none 0 0, .slice none 0 0, .slice none 0 0, .int .i64 0, .int .i64 0, .int .i64 0, .bool false] := ⟨.agg #[.slice none 0 0, .slice none 0 0, .slice none 0 0, .slice none 0 0, .int .i64 0, .int .i64 0, .int .i64 0, .bool false], by kernel_rfl, rfl⟩
instance : TRow Try.prog 43 8 := ⟨⟨_, Try.underlying43, rfl⟩, by kernel_rfl⟩
instance : TFld Try.prog 43 0 0 := ⟨_, _, 0, Try.underlying43, rfl, rfl, by kernel_rfl⟩
instance : TFld Try.prog 43 1 1 := ⟨_, _, 1, Try.underlying43, rfl, rfl, by kernel_rfl⟩
instance : TFld Try.prog 43 2 3 := ⟨_, _, 0, Try.underlying43, rfl, rfl, by kernel_rfl⟩
instance : TFld Try.prog 43 3 4 := ⟨_, _, 0, Try.underlying43, rfl, rfl, by kernel_rfl⟩
instance : TFld Try.prog 43 4 5 := ⟨_, _, 0, Try.underlying43, rfl, rfl, by kernel_rfl⟩
instance : TFld Try.prog 43 5 6 := ⟨_, _, 0, Try.underlying43, rfl, rfl, by kernel_rfl⟩
instance : TFld Try.prog 43 6 7 := ⟨_, _, 0, Try.underlying43, rfl, rfl, by kernel_rfl⟩
instance : TEl Try.prog 43 8 128 (.agg #[.slice none 0 0, .slice none 0 0, .slice none 0 0, .slice none 0 0, .int .i64 0, .int .i64 0, .int .i64 0, .bool false]) := ⟨by kernel_rfl, rfl, by decide⟩
instance : TZero Try.prog 43 [.slice none 0 0, .slice none 0 0, .slice none 0 0, .slice none 0 0, .int .i64 0, .int .i64 0, .int .i64 0, .bool false] := ⟨.agg #[.slice none 0 0, .slice none 0 0, .slice none 0 0, .slice none 0 0, .int .i64 0, .int .i64 0, .int .i64 0, .bool false], by kernel_rfl, rfl⟩
instance : TOne Try.prog 50 := ⟨⟨_, Try.underlying50, rfl⟩, by kernel_rfl⟩
instance : TSl Try.prog 50 5 1 := ⟨Try.underlying50, by kernel_rfl⟩
instance : TEl Try.prog 50 1 24 (.slice none 0 0) := ⟨by kernel_rfl, rfl, by decide⟩
instance : TZero Try.prog 50 [.slice none 0 0] := ⟨.slice none 0 0, by kernel_rfl, rfl⟩
instance : TRow Try.prog 59 2 := ⟨⟨_, Try.underlying59, rfl⟩, by kernel_rfl⟩
instance : TFld Try.prog 59 0 0 := ⟨_, _, 0, Try.underlying59, rfl, rfl, by kernel_rfl⟩
instance : TFld Try.prog 59 1 1 := ⟨_, _, 0, Try.underlying59, rfl, rfl, by kernel_rfl⟩
instance : TEq Try.prog 59 [0, 0] := ⟨by kernel_rfl, by kernel_rfl, _, Try.underlying59⟩
instance : TEl Try.prog 59 2 16 (.agg #[.int .i64 0, .int .i64 0]) := ⟨by kernel_rfl, rfl, by decide⟩
instance : TZero Try.prog 59 [.int .i64 0, .int .i64 0] := ⟨.agg #[.int .i64 0, .int .i64 0], by kernel_rfl, rfl⟩
instance : TRow Try.prog 60 2 := ⟨⟨_, Try.underlying60, rfl⟩, by kernel_rfl⟩
instance : TFld Try.prog 60 0 0 := ⟨_, _, 0, Try.underlying60, rfl, rfl, by kernel_rfl⟩
instance : TFld Try.prog 60 1 1 := ⟨_, _, 0, Try.underlying60, rfl, rfl, by kernel_rfl⟩
instance : TEq Try.prog 60 [0, 0] := ⟨by kernel_rfl, by kernel_rfl, _, Try.underlying60⟩
instance : TEl Try.prog 60 2 16 (.agg #[.int .i64 0, .int .i64 0]) := ⟨by kernel_rfl, rfl, by decide⟩
instance : TZero Try.prog 60 [.int .i64 0, .int .i64 0] := ⟨.agg #[.int .i64 0, .int .i64 0], by kernel_rfl, rfl⟩
instance : TRow Try.prog 61 12 := ⟨⟨_, Try.underlying61, rfl⟩, by kernel_rfl⟩
instance : TFld Try.prog 61 0 0 := ⟨_, _, 1, Try.underlying61, rfl, rfl, by kernel_rfl⟩
instance : TFld Try.prog 61 1 2 := ⟨_, _, 1, Try.underlying61, rfl, rfl, by kernel_rfl⟩
instance : TFld Try.prog 61 2 4 := ⟨_, _, 1, Try.underlying61, rfl, rfl, by kernel_rfl⟩
instance : TFld Try.prog 61 3 6 := ⟨_, _, 1, Try.underlying61, rfl, rfl, by kernel_rfl⟩
instance : TFld Try.prog 61 4 8 := ⟨_, _, 1, Try.underlying61, rfl, rfl, by kernel_rfl⟩
instance : TFld Try.prog 61 5 10 := ⟨_, _, 1, Try.underlying61, rfl, rfl, by kernel_rfl⟩
instance : TEq Try.prog 61 [0, 0, 0, 0, 0, 0, 0, 0, 0, 0, 0, 0] := ⟨by kernel_rfl, by kernel_rfl, _, Try.underlying61⟩
instance : TEl Try.prog 61 12 96 (.agg #[.int .i64 0, .int .i64 0, .int .i64 0, .int .i64 0, .int .i64 0, .int .i64 0, .int .i64 0, .int .i64 0, .int .i64 0, .int .i64 0, .int .i64 0, .int .i64 0]) := ⟨by kernel_rfl, rfl, by decide⟩
instance : TZero Try.prog 61 [.int .i64 0, .int .i64 0, .int .i64 0, .int .i64 0, .int .i64 0, .int .i64 0, .int .i64 0, .int .i64 0, .int .i64 0, .int .i64 0, .int .i64 0, .int .i64 0] := ⟨.agg #[.int .i64 0, .int .i64 0, .int .i64 0, .int .i64 0, .int .i64 0, .int .i64 0, .int .i64 0, .int .i64 0, .int .i64 0, .int .i64 0, .int .i64 0, .int .i64 0], by kernel_rfl, rfl⟩
instance : TRow Try.prog 62 12 := ⟨⟨_, Try.underlying62, rfl⟩, by kernel_rfl⟩
instance : TFld Try.prog 62 0 0 := ⟨_, _, 1, Try.underlying62, rfl, rfl, by kernel_rfl⟩
instance : TFld Try.prog 62 1 2 := ⟨_, _, 1, Try.underlying62, rfl, rfl, by kernel_rfl⟩
instance : TFld Try.prog 62 2 4 := ⟨_, _, 1, Try.underlying62, rfl, rfl, by kernel_rfl⟩
instance : TFld Try.prog 62 3 6 := ⟨_, _, 1, Try.underlying62, rfl, rfl, by kernel_rfl⟩
instance : TFld Try.prog 62 4 8 := ⟨_, _, 1, Try.underlying62, rfl, rfl, by kernel_rfl⟩
instance : TFld Try.prog 62 5 10 := ⟨_, _, 1, Try.underlying62, rfl, rfl, by kernel_rfl⟩
instance : TEq Try.prog 62 [0, 0, 0, 0, 0, 0, 0, 0, 0, 0, 0, 0] := ⟨by kernel_rfl, by kernel_rfl, _, Try.underlying62⟩
instance : TEl Try.prog 62 12 96 (.agg #[.int .i64 0, .int .i64 0, .int .i64 0, .int .i64 0, .int .i64 0, .int .i64 0, .int .i64 0, .int .i64 0, .int .i64 0, .int .i64 0, .int .i64 0, .int .i64 0]) := ⟨by kernel_rfl, rfl, by decide⟩
instance : TZero Try.prog 62 [.int .i64 0, .int .i64 0, .int .i64 0, .int .i64 0, .int .i64 0, .int .i64 0, .int .i64 0, .int .i64 0, .int .i64 0, .int .i64 0, .int .i64 0, .int .i64 0] := ⟨.agg #[.int .i64 0, .int .i64 0, .int .i64 0, .int .i64 0, .int .i64 0, .int .i64 0, .int .i64 0, .int .i64 0, .int .i64 0, .int .i64 0, .int .i64 0, .int .i64 0], by kernel_rfl, rfl⟩
instance : TRow Try.prog 63 4 := ⟨⟨_, Try.underlying63, rfl⟩, by kernel_rfl⟩
instance : TFld Try.prog 63 0 0 := ⟨_, _, 0, Try.underlying63, rfl, rfl, by kernel_rfl⟩
instance : TFld Try.prog 63 1 1 := ⟨_, _, 0, Try.underlying63, rfl, rfl, by kernel_rfl⟩
instance : TFld Try.prog 63 2 2 := ⟨_, _, 0, Try.underlying63, rfl, rfl, by kernel_rfl⟩
instance : TFld Try.prog 63 3 3 := ⟨_, _, 0, Try.underlying63, rfl, rfl, by kernel_rfl⟩
instance : TEq Try.prog 63 [0, 0, 0, 0] := ⟨by kernel_rfl, by kernel_rfl, _, Try.underlying63⟩
instance : TEl Try.prog 63 4 32 (.agg #[.int .i64 0, .int .i64 0, .int .i64 0, .int .i64 0]) := ⟨by kernel_rfl, rfl, by decide⟩
instance : TZero Try.prog 63 [.int .i64 0, .int .i64 0, .int .i64 0, .int .i64 0] := ⟨.agg #[.int .i64 0, .int .i64 0, .int .i64 0, .int .i64 0], by kernel_rfl, rfl⟩
instance : TRow Try.prog 64 4 := ⟨⟨_, Try.underlying64, rfl⟩, by kernel_rfl⟩
instance : TFld Try.prog 64 0 0 := ⟨_, _, 0, Try.underlying64, rfl, rfl, by kernel_rfl⟩
instance : TFld Try.prog 64 1 1 := ⟨_, _, 0, Try.underlying64, rfl, rfl, by kernel_rfl⟩
instance : TFld Try.prog 64 2 2 := ⟨_, _, 0, Try.underlying64, rfl, rfl, by kernel_rfl⟩
instance : TFld Try.prog 64 3 3 := ⟨_, _, 0, Try.underlying64, rfl, rfl, by kernel_rfl⟩
instance : TEq Try.prog 64 [0, 0, 0, 0] := ⟨by kernel_rfl, by kernel_rfl, _, Try.underlying64⟩
instance : TEl Try.prog 64 4 32 (.agg #[.int .i64 0, .int .i64 0, .int .i64 0, .int .i64 0]) := ⟨by kernel_rfl, rfl, by decide⟩
instance : TZero Try.prog 64 [.int .i64 0, .int .i64 0, .int .i64 0, .int .i64 0] := ⟨.agg #[.int .i64 0, .int .i64 0, .int .i64 0, .int .i64 0], by kernel_rfl, rfl⟩
instance : TRow Try.prog 65 60 := ⟨⟨_, Try.underlying65, rfl⟩, by kernel_rfl⟩
instance : TFld Try.prog 65 0 0 := ⟨_, _, 0, Try.underlying65, rfl, rfl, by kernel_rfl⟩
instance : TFld Try.prog 65 1 1 := ⟨_, _, 0, Try.underlying65, rfl, rfl, by kernel_rfl⟩
instance : TFld Try.prog 65 2 2 := ⟨_, _, 0, Try.underlying65, rfl, rfl, by kernel_rfl⟩
instance : TFld Try.prog 65 3 3 := ⟨_, _, 0, Try.underlying65, rfl, rfl, by kernel_rfl⟩
instance : TFld Try.prog 65 4 4 := ⟨_, _, 0, Try.underlying65, rfl, rfl, by kernel_rfl⟩
instance : TFld Try.prog 65 5 5 := ⟨_, _, 0, Try.underlying65, rfl, rfl, by kernel_rfl⟩
instance : TFld Try.prog 65 6 6 := ⟨_, _, 0, Try.underlying65, rfl, rfl, by kernel_rfl⟩
instance : TFld Try.prog 65 7 7 := ⟨_, _, 0, Try.underlying65, rfl, rfl, by kernel_rfl⟩
instance : TFld Try.prog 65 8 8 := ⟨_, _, 0, Try.underlying65, rfl, rfl, by kernel_rfl⟩
instance : TFld Try.prog 65 9 9 := ⟨_, _, 0, Try.underlying65, rfl, rfl, by kernel_rfl⟩
instance : TFld Try.prog 65 10 10 := ⟨_, _, 0, Try.underlying65, rfl, rfl, by kernel_rfl⟩
instance : TFld Try.prog 65 11 11 := ⟨_, _, 1, Try.underlying65, rfl, rfl, by kernel_rfl⟩
instance : TFld Try.prog 65 12 13 := ⟨_, _, 1, Try.underlying65, rfl, rfl, by kernel_rfl⟩
instance : TFld Try.prog 65 13 15 := ⟨_, _, 1, Try.underlying65, rfl, rfl, by kernel_rfl⟩
instance : TFld Try.prog 65 14 17 := ⟨_, _, 1, Try.underlying65, rfl, rfl, by kernel_rfl⟩
instance : TFld Try.prog 65 15 19 := ⟨_, _, 1, Try.underlying65, rfl, rfl, by kernel_rfl⟩
instance : TFld Try.prog 65 16 21 := ⟨_, _, 1, Try.underlying65, rfl, rfl, by kernel_rfl⟩
instance : TFld Try.prog 65 17 23 := ⟨_, _, 1, Try.underlying65, rfl, rfl, by kernel_rfl⟩
instance : TFld Try.prog 65 18 25 := ⟨_, _, 0, Try.underlying65, rfl, rfl, by kernel_rfl⟩
instance : TFld Try.prog 65 19 26 := ⟨_, _, 11, Try.underlying65, rfl, rfl, by kernel_rfl⟩
instance : TFld Try.prog 65 20 38 := ⟨_, _, 11, Try.underlying65, rfl, rfl, by kernel_rfl⟩
instance : TFld Try.prog 65 21 50 := ⟨_, _, 3, Try.underlying65, rfl, rfl, by kernel_rfl⟩
instance : TFld Try.prog 65 22 54 := ⟨_, _, 3, Try.underlying65, rfl, rfl, by kernel_rfl⟩
instance : TFld Try.prog 65 23 58 := ⟨_, _, 0, Try.underlying65, rfl, rfl, by kernel_rfl⟩
instance : TFld Try.prog 65 24 59 := ⟨_, _, 0, Try.underlying65, rfl, rfl, by kernel_rfl⟩
instance : TEq Try.prog 65 [0, 0, 0, 0, 0, 0, 1, 1, 0, 0, 0, 0, 0, 0, 0, 0, 0, 0, 0, 0, 0, 0, 0, 0, 0, 0, 0, 0, 0, 0, 0, 0, 0, 0, 0, 0, 0, 0, 0, 0, 0, 0, 0, 0, 0, 0, 0, 0, 0, 0, 0, 0, 0, 0, 0, 0, 0, 0, 0, 0] := ⟨by kernel_rfl, by kernel_rfl, _, Try.underlying65⟩
instance : TEl Try.prog 65 60 472 (.agg #[.int .i64 0, .int .i64 0, .int .i64 0, .int .i64 0, .int .i64 0, .int .i64 0, .bool false, .bool false, .int .i64 0, .int .i64 0, .int .i64 0, .int .i64 0, .int .i64 0, .int .i64 0, .int .i64 0, .int .i64 0, .int .i64 0, .int .i64 0, .int .i64 0, .int .i64 0, .int .i64 0, .int .i64 0, .int .i64 0, .int .i64 0, .int .i64 0, .int .i64 0, .int .i64 0, .int .i64 0, .int .i64 0, .int .i64 0, .int .i64 0, .int .i64 0, .int .i64 0, .int .i64 0, .int .i64 0, .int .i64 0, .int .i64 0, .int .i64 0, .int .i64 0, .int .i64 0, .int .i64 0, .int .i64 0, .int .i64 0, .int .i64 0, .int .i64 0, .int .i64 0, .int .i64 0, .int .i64 0, .int .i64 0, .int .i64 0, .int .i64 0, .int .i64 0, .int .i64 0, .int .i64 0, .int .i64 0, .int .i64 0, .int .i64 0, .int .i64 0, .int .i64 0, .int .i64 0]) := ⟨by kernel_rfl, rfl, by decide⟩
instance : TZero Try.prog 65 [.int .i64 0, .int .i64 0, .int .i64 0, .int .i64 0, .int .i64 0, .int .i64 0, .bool false, .bool false, .int .i64 0, .int .i64 0, .int .i64 0, .int .i64 0, .int .i64 0, .int .i64 0, .int .i64 0, .int .i64 0, .int .i64 0, .int .i64 0, .int .i64 0, .int .i64 0, .int .i64 0, .int .i64 0, .int .i64 0, .int .i64 0, .int .i64 0, .int .i64 0, .int .i64 0, .int .i64 0, .int .i64 0, .int .i64 0, .int .i64 0, .int .i64 0, .int .i64 0, .int .i64 0, .int .i64 0, .int .i64 0, .int .i64 0, .int .i64 0, .int .i64 0, .int .i64 0, .int .i64 0, .int .i64 0, .int .i64 0, .int .i64 0, .int .i64 0, .int .i64 0, .int .i64 0, .int .i64 0, .int .i64 0, .int .i64 0, .int .i64 0, .int .i64 0, .int .i64 0, .int .i64 0, .int .i64 0, .int .i64 0, .int .i64 0, .int .i64 0, .int .i64 0, .int .i64 0] := ⟨.agg #[.int .i64 0, .int .i64 0, .int .i64 0, .int .i64 0, .int .i64 0, .int .i64 0, .bool false, .bool false, .int .i64 0, .int .i64 0, .int .i64 0, .int .i64 0, .int .i64 0, .int .i64 0, .int .i64 0, .int .i64 0, .int .i64 0, .int .i64 0, .int .i64 0, .int .i64 0, .int .i64 0, .int .i64 0, .int .i64 0, .int .i64 0, .int .i64 0, .int .i64 0, .int .i64 0, .int .i64 0, .int .i64 0, .int .i64 0, .int .i64 0, .int .i64 0, .int .i64 0, .int .i64 0, .int .i64 0, .int .i64 0, .int .i64 0, .int .i64 0, .int .i64 0, .int .i64 0, .int .i64 0, .int .i64 0, .int .i64 0, .int .i64 0, .int .i64 0, .int .i64 0, .int .i64 0, .int .i64 0, .int .i64 0, .int .i64 0, .int .i64 0, .int .i64 0, .int .i64 0, .int .i64 0, .int .i64 0, .int .i64 0, .int .i64 0, .int .i64 0, .int .i64 0, .int .i64 0], by kernel_rfl, rfl⟩
instance : TRow Try.prog 66 60 := ⟨⟨_, Try.underlying66, rfl⟩, by kernel_rfl⟩
instance : TFld Try.prog 66 0 0 := ⟨_, _, 0, Try.underlying66, rfl, rfl, by kernel_rfl⟩
instance : TFld Try.prog 66 1 1 := ⟨_, _, 0, Try.underlying66, rfl, rfl, by kernel_rfl⟩
instance : TFld Try.prog 66 2 2 := ⟨_, _, 0, Try.underlying66, rfl, rfl, by kernel_rfl⟩
instance : TFld Try.prog 66 3 3 := ⟨_, _, 0, Try.underlying66, rfl, rfl, by kernel_rfl⟩
instance : TFld Try.prog 66 4 4 := ⟨_, _, 0, Try.underlying66, rfl, rfl, by kernel_rfl⟩
instance : TFld Try.prog 66 5 5 := ⟨_, _, 0, Try.underlying66, rfl, rfl, by kernel_rfl⟩
instance : TFld Try.prog 66 6 6 := ⟨_, _, 0, Try.underlying66, rfl, rfl, by kernel_rfl⟩
instance : TFld Try.prog 66 7 7 := ⟨_, _, 0, Try.underlying66, rfl, rfl, by kernel_rfl⟩
instance : TFld Try.prog 66 8 8 := ⟨_, _, 0, Try.underlying66, rfl, rfl, by kernel_rfl⟩
instance : TFld Try.prog 66 9 9 := ⟨_, _, 0, Try.underlying66, rfl, rfl, by kernel_rfl⟩
instance : TFld Try.prog 66 10 10 := ⟨_, _, 0, Try.underlying66, rfl, rfl, by kernel_rfl⟩
instance : TFld Try.prog 66 11 11 := ⟨_, _, 1, Try.underlying66, rfl, rfl, by kernel_rfl⟩
instance : TFld Try.prog 66 12 13 := ⟨_, _, 1, Try.underlying66, rfl, rfl, by kernel_rfl⟩
instance : TFld Try.prog 66 13 15 := ⟨_, _, 1, Try.underlying66, rfl, rfl, by kernel_rfl⟩
instance : TFld Try.prog 66 14 17 := ⟨_, _, 1, Try.underlying66, rfl, rfl, by kernel_rfl⟩
instance : TFld Try.prog 66 15 19 := ⟨_, _, 1, Try.underlying66, rfl, rfl, by kernel_rfl⟩
instance : TFld Try.prog 66 16 21 := ⟨_, _, 1, Try.underlying66, rfl, rfl, by kernel_rfl⟩
instance : TFld Try.prog 66 17 23 := ⟨_, _, 1, Try.underlying66, rfl, rfl, by kernel_rfl⟩
instance : TFld Try.prog 66 18 25 := ⟨_, _, 0, Try.underlying66, rfl, rfl, by kernel_rfl⟩
instance : TFld Try.prog 66 19 26 := ⟨_, _, 11, Try.underlying66, rfl, rfl, by kernel_rfl⟩
instance : TFld Try.prog 66 20 38 := ⟨_, _, 11, Try.underlying66, rfl, rfl, by kernel_rfl⟩
instance : TFld Try.prog 66 21 50 := ⟨_, _, 3, Try.underlying66, rfl, rfl, by kernel_rfl⟩
instance : TFld Try.prog 66 22 54 := ⟨_, _, 3, Try.underlying66, rfl, rfl, by kernel_rfl⟩
instance : TFld Try.prog 66 23 58 := ⟨_, _, 0, Try.underlying66, rfl, rfl, by kernel_rfl⟩
instance : TFld Try.prog 66 24 59 := ⟨_, _, 0, Try.underlying66, rfl, rfl, by kernel_rfl⟩
instance : TEq Try.prog 66 [0, 0, 0, 0, 0, 0, 1, 1, 0, 0, 0, 0, 0, 0, 0, 0, 0, 0, 0, 0, 0, 0, 0, 0, 0, 0, 0, 0, 0, 0, 0, 0, 0, 0, 0, 0, 0, 0, 0, 0, 0, 0, 0, 0, 0, 0, 0, 0, 0, 0, 0, 0, 0, 0, 0, 0, 0, 0, 0, 0] := ⟨by kernel_rfl, by kernel_rfl, _, Try.underlying66⟩
instance : TEl Try.prog 66 60 472 (.agg #[.int .i64 0, .int .i64 0, .int .i64 0, .int .i64 0, .int .i64 0, .int .i64 0, .bool false, .bool false, .int .i64 0, .int .i64 0, .int .i64 0, .int .i64 0, .int .i64 0, .int .i64 0, .int .i64 0, .int .i64 0, .int .i64 0, .int .i64 0, .int .i64 0, .int .i64 0, .int .i64 0, .int .i64 0, .int .i64 0, .int .i64 0, .int .i64 0, .int .i64 0, .int .i64 0, .int .i64 0, .int .i64 0, .int .i64 0, .int .i64 0, .int .i64 0, .int .i64 0, .int .i64 0, .int .i64 0, .int .i64 0, .int .i64 0, .int .i64 0, .int .i64 0, .int .i64 0, .int .i64 0, .int .i64 0, .int .i64 0, .int .i64 0, .int .i64 0, .int .i64 0, .int .i64 0, .int .i64 0, .int .i64 0, .int .i64 0, .int .i64 0, .int .i64 0, .int .i64 0, .int .i64 0, .int .i64 0, .int .i64 0, .int .i64 0, .int .i64 0, .int .i64 0, .int .i64 0]) := ⟨by kernel_rfl, rfl, by decide⟩
instance : TZero Try.prog 66 [.int .i64 0, .int .i64 0, .int .i64 0, .int .i64 0, .int .i64 0, .int .i64 0, .bool false, .bool false, .int .i64 0, .int .i64 0, .int .i64 0, .int .i64 0, .int .i64 0, .int .i64 0, .int .i64 0, .int .i64 0, .int .i64 0, .int .i64 0, .int .i64 0, .int .i64 0, .int .i64 0, .int .i64 0, .int .i64 0, .int .i64 0, .int .i64 0, .int .i64 0, .int .i64 0, .int .i64 0, .int .i64 0, .int .i64 0, .int .i64 0, .int .i64 0, .int .i64 0, .int .i64 0, .int .i64 0, .int .i64 0, .int .i64 0, .int .i64 0, .int .i64 0, .int .i64 0, .int .i64 0, .int .i64 0, .int .i64 0, .int .i64 0, .int .i64 0, .int .i64 0, .int .i64 0, .int .i64 0, .int .i64 0, .int .i64 0, .int .i64 0, .int .i64 0, .int .i64 0, .int .i64 0, .int .i64 0, .int .i64 0, .int .i64 0, .int .i64 0, .int .i64 0, .int .i64 0] := ⟨.agg #[.int .i64 0, .int .i64 0, .int .i64 0, .int .i64 0, .int .i64 0, .int .i64 0, .bool false, .bool false, .int .i64 0, .int .i64 0, .int .i64 0, .int .i64 0, .int .i64 0, .int .i64 0, .int .i64 0, .int .i64 0, .int .i64 0, .int .i64 0, .int .i64 0, .int .i64 0, .int .i64 0, .int .i64 0, .int .i64 0, .int .i64 0, .int .i64 0, .int .i64 0, .int .i64 0, .int .i64 0, .int .i64 0, .int .i64 0, .int .i64 0, .int .i64 0, .int .i64 0, .int .i64 0, .int .i64 0, .int .i64 0, .int .i64 0, .int .i64 0, .int .i64 0, .int .i64 0, .int .i64 0, .int .i64 0, .int .i64 0, .int .i64 0, .int .i64 0, .int .i64 0, .int .i64 0, .int .i64 0, .int .i64 0, .int .i64 0, .int .i64 0, .int .i64 0, .int .i64 0, .int .i64 0, .int .i64 0, .int .i64 0, .int .i64 0, .int .i64 0, .int .i64 0, .int .i64 0], by kernel_rfl, rfl⟩
instance : TOne Try.prog 74 := ⟨⟨_, Try.underlying74, rfl⟩, by kernel_rfl⟩
instance : TSl Try.prog 74 152 3 := ⟨Try.underlying74, by kernel_rfl⟩
instance : TEl Try.prog 74 1 24 (.slice none 0 0) := ⟨by kernel_rfl, rfl, by decide⟩
instance : TZero Try.prog 74 [.slice none 0 0] := ⟨.slice none 0 0, by kernel_rfl, rfl⟩
instance : TRow Try.prog 75 1 := ⟨⟨_, Try.underlying75, rfl⟩, by kernel_rfl⟩
instance : TFld Try.prog 75 0 0 := ⟨_, _, 0, Try.underlying75, rfl, rfl, by kernel_rfl⟩
instance : TEl Try.prog 75 1 24 (.agg #[.slice none 0 0]) := ⟨by kernel_rfl, rfl, by decide⟩
instance : TZero Try.prog 75 [.slice none 0 0] := ⟨.agg #[.slice none 0 0], by kernel_rfl, rfl⟩
instance : TRow Try.prog 76 1 := ⟨⟨_, Try.underlying76, rfl⟩, by kernel_rfl⟩
instance : TFld Try.prog 76 0 0 := ⟨_, _, 0, Try.underlying76, rfl, rfl, by kernel_rfl⟩
instance : TEl Try.prog 76 1 24 (.agg #[.slice none 0 0]) := ⟨by kernel_rfl, rfl, by decide⟩
instance : TZero Try.prog 76 [.slice none 0 0] := ⟨.agg #[.slice none 0 0], by kernel_rfl, rfl⟩
instance : TOne Try.prog 84 := ⟨⟨_, Try.underlying84, rfl⟩, by kernel_rfl⟩
instance : TSl Try.prog 84 3 1 := ⟨Try.underlying84, by kernel_rfl⟩
instance : TEl Try.prog 84 1 24 (.slice none 0 0) := ⟨by kernel_rfl, rfl, by decide⟩
instance : TZero Try.prog 84 [.slice none 0 0] := ⟨.slice none 0 0, by kernel_rfl, rfl⟩
instance : TRow Try.prog 85 64 := ⟨⟨_, Try.underlying85, rfl⟩, by kernel_rfl⟩
instance : TFld Try.prog 85 0 0 := ⟨_, _, 0, Try.underlying85, rfl, rfl, by kernel_rfl⟩
instance : TFld Try.prog 85 1 1 := ⟨_, _, 0, Try.underlying85, rfl, rfl, by kernel_rfl⟩
instance : TFld Try.prog 85 2 2 := ⟨_, _, 59, Try.underlying85, rfl, rfl, by kernel_rfl⟩
instance : TFld Try.prog 85 3 62 := ⟨_, _, 0, Try.underlying85, rfl, rfl, by kernel_rfl⟩
instance : TFld Try.prog 85 4 63 := ⟨_, _, 0, Try.underlying85, rfl, rfl, by kernel_rfl⟩
instance : TEl Try.prog 85 64 536 (.agg #[.int .i64 0, .slice none 0 0, .int .i64 0, .int .i64 0, .int .i64 0, .int .i64 0, .int .i64 0, .int .i64 0, .bool false, .bool false, .int .i64 0, .int .i64 0, .int .i64 0, .int .i64 0, .int .i64 0, .int .i64 0, .int .i64 0, .int .i64 0, .int .i64 0, .int .i64 0, .int .i64 0, .int .i64 0, .int .i64 0, .int .i64 0, .int .i64 0, .int .i64 0, .int .i64 0, .int .i64 0, .int .i64 0, .int .i64 0, .int .i64 0, .int .i64 0, .int .i64 0, .int .i64 0, .int .i64 0, .int .i64 0, .int .i64 0, .int .i64 0, .int .i64 0, .int .i64 0, .int .i64 0, .int .i64 0, .int .i64 0, .int .i64 0, .int .i64 0, .int .i64 0, .int .i64 0, .int .i64 0, .int .i64 0, .int .i64 0, .int .i64 0, .int .i64 0, .int .i64 0, .int .i64 0, .int .i64 0, .int .i64 0, .int .i64 0, .int .i64 0, .int .i64 0, .int .i64 0, .int .i64 0, .int .i64 0, .bool false, .slice none 0 0]) := ⟨by kernel_rfl, rfl, by decide⟩
instance : TZero Try.prog 85 [.int .i64 0, .slice none 0 0, .int .i64 0, .int .i64 0, .int .i64 0, .int .i64 0, .int .i64 0, .int .i64 0, .bool false, .bool false, .int .i64 0, .int .i64 0, .int .i64 0, .int .i64 0, .int .i64 0, .int .i64 0, .int .i64 0, .int .i64 0, .int .i64 0, .int .i64 0, .int .i64 0, .int .i64 0, .int .i64 0, .int .i64 0, .int .i64 0, .int .i64 0, .int .i64 0, .int .i64 0, .int .i64 0, .int .i64 0, .int .i64 0, .int .i64 0, .int .i64 0, .int .i64 0, .int .i64 0, .int .i64 0, .int .i64 0, .int .i64 0, .int .i64 0, .int .i64 0, .int .i64 0, .int .i64 0, .int .i64 0, .int .i64 0, .int .i64 0, .int .i64 0, .int .i64 0, .int .i64 0, .int .i64 0, .int .i64 0, .int .i64 0, .int .i64 0, .int .i64 0, .int .i64 0, .int .i64 0, .int .i64 0, .int .i64 0, .int .i64 0, .int .i64 0, .int .i64 0, .int .i64 0, .int .i64 0, .bool false, .slice none 0 0] := ⟨.agg #[.int .i64 0, .slice none 0 0, .int .i64 0, .int .i64 0, .int .i64 0, .int .i64 0, .int .i64 0, .int .i64 0, .bool false, .bool false, .int .i64 0, .int .i64 0, .int .i64 0, .int .i64 0, .int .i64 0, .int .i64 0, .int .i64 0, .int .i64 0, .int .i64 0, .int .i64 0, .int .i64 0, .int .i64 0, .int .i64 0, .int .i64 0, .int .i64 0, .int .i64 0, .int .i64 0, .int .i64 0, .int .i64 0, .int .i64 0, .int .i64 0, .int .i64 0, .int .i64 0, .int .i64 0, .int .i64 0, .int .i64 0, .int .i64 0, .int .i64 0, .int .i64 0, .int .i64 0, .int .i64 0, .int .i64 0, .int .i64 0, .int .i64 0, .int .i64 0, .int .i64 0, .int .i64 0, .int .i64 0, .int .i64 0, .int .i64 0, .int .i64 0, .int .i64 0, .int .i64 0, .int .i64 0, .int .i64 0, .int .i64 0, .int .i64 0, .int .i64 0, .int .i64 0, .int .i64 0, .int .i64 0, .int .i64 0, .bool false, .slice none 0 0], by kernel_rfl, rfl⟩
instance : TRow Try.prog 86 64 := ⟨⟨_, Try.underlying86, rfl⟩, by kernel_rfl⟩
instance : TFld Try.prog 86 0 0 := ⟨_, _, 0, Try.underlying86, rfl, rfl, by kernel_rfl⟩
instance : TFld Try.prog 86 1 1 := ⟨_, _, 0, Try.underlying86, rfl, rfl, by kernel_rfl⟩
instance : TFld Try.prog 86 2 2 := ⟨_, _, 59, Try.underlying86, rfl, rfl, by kernel_rfl⟩
instance : TFld Try.prog 86 3 62 := ⟨_, _, 0, Try.underlying86, rfl, rfl, by kernel_rfl⟩
instance : TFld Try.prog 86 4 63 := ⟨_, _, 0, Try.underlying86, rfl, rfl, by kernel_rfl⟩
instance : TEl Try.prog 86 64 536 (.agg #[.int .i64 0, .slice none 0 0, .int .i64 0, .int .i64 0, .int .i64 0, .int .i64 0, .int .i64 0, .int .i64 0, .bool false, .bool false, .int .i64 0, .int .i64 0, .int .i64 0, .int .i64 0, .int .i64 0, .int .i64 0, .int .i64 0, .int .i64 0, .int .i64 0, .int .i64 0, .int .i64 0, .int .i64 0, .int .i64 0, .int .i64 0, .int .i64 0, .int .i64 0, .int .i64 0, .int .i64 0, .int .i64 0, .int .i64 0, .int .i64 0, .int .i64 0, .int .i64 0, .int .i64 0, .int .i64 0, .int .i64 0, .int .i64 0, .int .i64 0, .int .i64 0, .int .i64 0, .int .i64 0, .int .i64 0, .int .i64 0, .int .i64 0, .int .i64 0, .int .i64 0, .int .i64 0, .int .i64 0, .int .i64 0, .int .i64 0, .int .i64 0, .int .i64 0, .int .i64 0, .int .i64 0, .int .i64 0, .int .i64 0, .int .i64 0, .int .i64 0, .int .i64 0, .int .i64 0, .int .i64 0, .int .i64 0, .bool false, .slice none 0 0]) := ⟨by kernel_rfl, rfl, by decide⟩
instance : TZero Try.prog 86 [.int .i64 0, .slice none 0 0, .int .i64 0, .int .i64 0, .int .i64 0, .int .i64 0, .int .i64 0, .int .i64 0, .bool false, .bool false, .int .i64 0, .int .i64 0, .int .i64 0, .int .i64 0, .int .i64 0, .int .i64 0, .int .i64 0, .int .i64 0, .int .i64 0, .int .i64 0, .int .i64 0, .int .i64 0, .int .i64 0, .int .i64 0, .int .i64 0, .int .i64 0, .int .i64 0, .int .i64 0, .int .i64 0, .int .i64 0, .int .i64 0, .int .i64 0, .int .i64 0, .int .i64 0, .int .i64 0, .int .i64 0, .int .i64 0, .int .i64 0, .int .i64 0, .int .i64 0, .int .i64 0, .int .i64 0, .int .i64 0, .int .i64 0, .int .i64 0, .int .i64 0, .int .i64 0, .int .i64 0, .int .i64 0, .int .i64 0, .int .i64 0, .int .i64 0, .int .i64 0, .int .i64 0, .int .i64 0, .int .i64 0, .int .i64 0, .int .i64 0, .int .i64 0, .int .i64 0, .int .i64 0, .int .i64 0, .bool false, .slice none 0 0] := ⟨.agg #[.int .i64 0, .slice none 0 0, .int .i64 0, .int .i64 0, .int .i64 0, .int .i64 0, .int .i64 0, .int .i64 0, .bool false, .bool false, .int .i64 0, .int .i64 0, .int .i64 0, .int .i64 0, .int .i64 0, .int .i64 0, .int .i64 0, .int .i64 0, .int .i64 0, .int .i64 0, .int .i64 0, .int .i64 0, .int .i64 0, .int .i64 0, .int .i64 0, .int .i64 0, .int .i64 0, .int .i64 0, .int .i64 0, .int .i64 0, .int .i64 0, .int .i64 0, .int .i64 0, .int .i64 0, .int .i64 0, .int .i64 0, .int .i64 0, .int .i64 0, .int .i64 0, .int .i64 0, .int .i64 0, .int .i64 0, .int .i64 0, .int .i64 0, .int .i64 0, .int .i64 0, .int .i64 0, .int .i64 0, .int .i64 0, .int .i64 0, .int .i64 0, .int .i64 0, .int .i64 0, .int .i64 0, .int .i64 0, .int .i64 0, .int .i64 0, .int .i64 0, .int .i64 0, .int .i64 0, .int .i64 0, .int .i64 0, .bool false, .slice none 0 0], by kernel_rfl, rfl⟩
instance : TRow Try.prog 98 2 := ⟨⟨_, Try.underlying98, rfl⟩, by kernel_rfl⟩
instance : TFld Try.prog 98 0 0 := ⟨_, _, 0, Try.underlying98, rfl, rfl, by kernel_rfl⟩
instance : TFld Try.prog 98 1 1 := ⟨_, _, 0, Try.underlying98, rfl, rfl, by kernel_rfl⟩
instance : TEq Try.prog 98 [0, 0] := ⟨by kernel_rfl, by kernel_rfl, _, Try.underlying98⟩
instance : TEl Try.prog 98 2 16 (.agg #[.int .i64 0, .int .i64 0]) := ⟨by kernel_rfl, rfl, by decide⟩
instance : TZero Try.prog 98 [.int .i64 0, .int .i64 0] := ⟨.agg #[.int .i64 0, .int .i64 0], by kernel_rfl, rfl⟩
instance : TRow Try.prog 99 2 := ⟨⟨_, Try.underlying99, rfl⟩, by kernel_rfl⟩
instance : TFld Try.prog 99 0 0 := ⟨_, _, 0, Try.underlying99, rfl, rfl, by kernel_rfl⟩
instance : TFld Try.prog 99 1 1 := ⟨_, _, 0, Try.underlying99, rfl, rfl, by kernel_rfl⟩
instance : TEq Try.prog 99 [0, 0] := ⟨by kernel_rfl, by kernel_rfl, _, Try.underlying99⟩
instance : TEl Try.prog 99 2 16 (.agg #[.int .i64 0, .int .i64 0]) := ⟨by kernel_rfl, rfl, by decide⟩
instance : TZero Try.prog 99 [.int .i64 0, .int .i64 0] := ⟨.agg #[.int .i64 0, .int .i64 0], by kernel_rfl, rfl⟩
instance : TRow Try.prog 100 6 := ⟨⟨_, Try.underlying100, rfl⟩, by kernel_rfl⟩
instance : TFld Try.prog 100 0 0 := ⟨_, _, 0, Try.underlying100, rfl, rfl, by kernel_rfl⟩
instance : TFld Try.prog 100 1 1 := ⟨_, _, 1, Try.underlying100, rfl, rfl, by kernel_rfl⟩
instance : TFld Try.prog 100 2 3 := ⟨_, _, 1, Try.underlying100, rfl, rfl, by kernel_rfl⟩
instance : TFld Try.prog 100 3 5 := ⟨_, _, 0, Try.underlying100, rfl, rfl, by kernel_rfl⟩
instance : TEq Try.prog 100 [0, 0, 0, 0, 0, 1] := ⟨by kernel_rfl, by kernel_rfl, _, Try.underlying100⟩
instance : TEl Try.prog 100 6 48 (.agg #[.int .i64 0, .int .i64 0, .int .i64 0, .int .i64 0, .int .i64 0, .bool false]) := ⟨by kernel_rfl, rfl, by decide⟩
instance : TZero Try.prog 100 [.int .i64 0, .int .i64 0, .int .i64 0, .int .i64 0, .int .i64 0, .bool false] := ⟨.agg #[.int .i64 0, .int .i64 0, .int .i64 0, .int .i64 0, .int .i64 0, .bool false], by kernel_rfl, rfl⟩
instance : TRow Try.prog 101 6 := ⟨⟨_, Try.underlying101, rfl⟩, by kernel_rfl⟩
instance : TFld Try.prog 101 0 0 := ⟨_, _, 0, Try.underlying101, rfl, rfl, by kernel_rfl⟩
instance : TFld Try.prog 101 1 1 := ⟨_, _, 1, Try.underlying101, rfl, rfl, by kernel_rfl⟩
instance : TFld Try.prog 101 2 3 := ⟨_, _, 1, Try.underlying101, rfl, rfl, by kernel_rfl⟩
instance : TFld Try.prog 101 3 5 := ⟨_, _, 0, Try.underlying101, rfl, rfl, by kernel_rfl⟩
instance : TEq Try.prog 101 [0, 0, 0, 0, 0, 1] := ⟨by kernel_rfl, by kernel_rfl, _, Try.underlying101⟩
instance : TEl Try.prog 101 6 48 (.agg #[.int .i64 0, .int .i64 0, .int .i64 0, .int .i64 0, .int .i64 0, .bool false]) := ⟨by kernel_rfl, rfl, by decide⟩
instance : TZero Try.prog 101 [.int .i64 0, .int .i64 0, .int .i64 0, .int .i64 0, .int .i64 0, .bool false] := ⟨.agg #[.int .i64 0, .int .i64 0, .int .i64 0, .int .i64 0, .int .i64 0, .bool false], by kernel_rfl, rfl⟩
instance : TOne Try.prog 106 := ⟨⟨_, Try.underlying106, rfl⟩, by kernel_rfl⟩
instance : TPtr Try.prog 106 := ⟨⟨_, Try.underlying106⟩⟩
instance : TEl Try.prog 106 1 8 (.pointer none) := ⟨by kernel_rfl, rfl, by decide⟩
instance : TZero Try.prog 106 [.pointer none] := ⟨.pointer none, by kernel_rfl, rfl⟩
instance : TRow Try.prog 131 5 := ⟨⟨_, Try.underlying131, rfl⟩, by kernel_rfl⟩
instance : TFld Try.prog 131 0 0 := ⟨_, _, 0, Try.underlying131, rfl, rfl, by kernel_rfl⟩
instance : TFld Try.prog 131 1 1 := ⟨_, _, 0, Try.underlying131, rfl, rfl, by kernel_rfl⟩
instance : TFld Try.prog 131 2 2 := ⟨_, _, 0, Try.underlying131, rfl, rfl, by kernel_rfl⟩
instance : TFld Try.prog 131 3 3 := ⟨_, _, 0, Try.underlying131, rfl, rfl, by kernel_rfl⟩
instance : TFld Try.prog 131 4 4 := ⟨_, _, 0, Try.underlying131, rfl, rfl, by kernel_rfl⟩
instance : TEq Try.prog 131 [0, 0, 0, 0, 0] := ⟨by kernel_rfl, by kernel_rfl, _, Try.underlying131⟩
instance : TEl Try.prog 131 5 40 (.agg #[.int .i64 0, .int .i64 0, .int .i64 0, .int .i64 0, .int .i64 0]) := ⟨by kernel_rfl, rfl, by decide⟩
instance : TZero Try.prog 131 [.int .i64 0, .int .i64 0, .int .i64 0, .int .i64 0, .int .i64 0] := ⟨.agg #[.int .i64 0, .int .i64 0, .int .i64 0, .int .i64 0, .int .i64 0], by kernel_rfl, rfl⟩
instance : TRow Try.prog 132 5 := ⟨⟨_, Try.underlying132, rfl⟩, by kernel_rfl⟩
instance : TFld Try.prog 132 0 0 := ⟨_, _, 0, Try.underlying132, rfl, rfl, by kernel_rfl⟩
instance : TFld Try.prog 132 1 1 := ⟨_, _, 0, Try.underlying132, rfl, rfl, by kernel_rfl⟩
instance : TFld Try.prog 132 2 2 := ⟨_, _, 0, Try.underlying132, rfl, rfl, by kernel_rfl⟩
instance : TFld Try.prog 132 3 3 := ⟨_, _, 0, Try.underlying132, rfl, rfl, by kernel_rfl⟩
instance : TFld Try.prog 132 4 4 := ⟨_, _, 0, Try.underlying132, rfl, rfl, by kernel_rfl⟩
instance : TEq Try.prog 132 [0, 0, 0, 0, 0] := ⟨by kernel_rfl, by kernel_rfl, _, Try.underlying132⟩
instance : TEl Try.prog 132 5 40 (.agg #[.int .i64 0, .int .i64 0, .int .i64 0, .int .i64 0, .int .i64 0]) := ⟨by kernel_rfl, rfl, by decide⟩
instance : TZero Try.prog 132 [.int .i64 0, .int .i64 0, .int .i64 0, .int .i64 0, .int .i64 0] := ⟨.agg #[.int .i64 0, .int .i64 0, .int .i64 0, .int .i64 0, .int .i64 0], by kernel_rfl, rfl⟩
instance : TRow Try.prog 134 5 := ⟨⟨_, Try.underlying134, rfl⟩, by kernel_rfl⟩
instance : TFld Try.prog 134 0 0 := ⟨_, _, 0, Try.underlying134, rfl, rfl, by kernel_rfl⟩
instance : TFld Try.prog 134 1 1 := ⟨_, _, 0, Try.underlying134, rfl, rfl, by kernel_rfl⟩
instance : TFld Try.prog 134 2 2 := ⟨_, _, 0, Try.underlying134, rfl, rfl, by kernel_rfl⟩
instance : TFld Try.prog 134 3 3 := ⟨_, _, 0, Try.underlying134, rfl, rfl, by kernel_rfl⟩
instance : TFld Try.prog 134 4 4 := ⟨_, _, 0, Try.underlying134, rfl, rfl, by kernel_rfl⟩
instance : TEq Try.prog 134 [0, 0, 0, 0, 0] := ⟨by kernel_rfl, by kernel_rfl, _, Try.underlying134⟩
instance : TEl Try.prog 134 5 40 (.agg #[.int .i64 0, .int .i64 0, .int .i64 0, .int .i64 0, .int .i64 0]) := ⟨by kernel_rfl, rfl, by decide⟩
instance : TZero Try.prog 134 [.int .i64 0, .int .i64 0, .int .i64 0, .int .i64 0, .int .i64 0] := ⟨.agg #[.int .i64 0, .int .i64 0, .int .i64 0, .int .i64 0, .int .i64 0], by kernel_rfl, rfl⟩
instance : TRow Try.prog 140 3 := ⟨⟨_, Try.underlying140, rfl⟩, by kernel_rfl⟩
instance : TFld Try.prog 140 0 0 := ⟨_, _, 0, Try.underlying140, rfl, rfl, by kernel_rfl⟩
instance : TFld Try.prog 140 1 1 := ⟨_, _, 0, Try.underlying140, rfl, rfl, by kernel_rfl⟩
instance : TFld Try.prog 140 2 2 := ⟨_, _, 0, Try.underlying140, rfl, rfl, by kernel_rfl⟩
instance : TEl Try.prog 140 3 40 (.agg #[.slice none 0 0, .int .i64 0, .int .i64 0]) := ⟨by kernel_rfl, rfl, by decide⟩
instance : TZero Try.prog 140 [.slice none 0 0, .int .i64 0, .int .i64 0] := ⟨.agg #[.slice none 0 0, .int .i64 0, .int .i64 0], by kernel_rfl, rfl⟩
instance : TRow Try.prog 141 3 := ⟨⟨_, Try.underlying141, rfl⟩, by kernel_rfl⟩
instance : TFld Try.prog 141 0 0 := ⟨_, _, 0, Try.underlying141, rfl, rfl, by kernel_rfl⟩
instance : TFld Try.prog 141 1 1 := ⟨_, _, 0, Try.underlying141, rfl, rfl, by kernel_rfl⟩
instance : TFld Try.prog 141 2 2 := ⟨_, _, 0, Try.underlying141, rfl, rfl, by kernel_rfl⟩
instance : TEl Try.prog 141 3 40 (.agg #[.slice none 0 0, .int .i64 0, .int .i64 0]) := ⟨by kernel_rfl, rfl, by decide⟩
instance : TZero Try.prog 141 [.slice none 0 0, .int .i64 0, .int .i64 0] := ⟨.agg #[.slice none 0 0, .int .i64 0, .int .i64 0], by kernel_rfl, rfl⟩
instance : TOne Try.prog 147 := ⟨⟨_, Try.underlying147, rfl⟩, by kernel_rfl⟩
instance : TSl Try.prog 147 60 2 := ⟨Try.underlying147, by kernel_rfl⟩
instance : TEl Try.prog 147 1 24 (.slice none 0 0) := ⟨by kernel_rfl, rfl, by decide⟩
instance : TZero Try.prog 147 [.slice none 0 0] := ⟨.slice none 0 0, by kernel_rfl, rfl⟩
instance : TRow Try.prog 151 3 := ⟨⟨_, Try.underlying151, rfl⟩, by kernel_rfl⟩
instance : TFld Try.prog 151 0 0 := ⟨_, _, 0, Try.underlying151, rfl, rfl, by kernel_rfl⟩
instance : TFld Try.prog 151 1 1 := ⟨_, _, 0, Try.underlying151, rfl, rfl, by kernel_rfl⟩
instance : TFld Try.prog 151 2 2 := ⟨_, _, 0, Try.underlying151, rfl, rfl, by kernel_rfl⟩
instance : TEq Try.prog 151 [0, 0, 0] := ⟨by kernel_rfl, by kernel_rfl, _, Try.underlying151⟩
instance : TEl Try.prog 151 3 24 (.agg #[.int .i64 0, .int .i64 0, .int .i64 0]) := ⟨by kernel_rfl, rfl, by decide⟩
instance : TZero Try.prog 151 [.int .i64 0, .int .i64 0, .int .i64 0] := ⟨.agg #[.int .i64 0, .int .i64 0, .int .i64 0], by kernel_rfl, rfl⟩
instance : TRow Try.prog 152 3 := ⟨⟨_, Try.underlying152, rfl⟩, by kernel_rfl⟩
instance : TFld Try.prog 152 0 0 := ⟨_, _, 0, Try.underlying152, rfl, rfl, by kernel_rfl⟩
instance : TFld Try.prog 152 1 1 := ⟨_, _, 0, Try.underlying152, rfl, rfl, by kernel_rfl⟩
instance : TFld Try.prog 152 2 2 := ⟨_, _, 0, Try.underlying152, rfl, rfl, by kernel_rfl⟩
instance : TEq Try.prog 152 [0, 0, 0] := ⟨by kernel_rfl, by kernel_rfl, _, Try.underlying152⟩
instance : TEl Try.prog 152 3 24 (.agg #[.int .i64 0, .int .i64 0, .int .i64 0]) := ⟨by kernel_rfl, rfl, by decide⟩
instance : TZero Try.prog 152 [.int .i64 0, .int .i64 0, .int .i64 0] := ⟨.agg #[.int .i64 0, .int .i64 0, .int .i64 0], by kernel_rfl, rfl⟩
instance : TRow Try.prog 157 2 := ⟨⟨_, Try.underlying157, rfl⟩, by kernel_rfl⟩
instance : TFld Try.prog 157 0 0 := ⟨_, _, 0, Try.underlying157, rfl, rfl, by kernel_rfl⟩
instance : TFld Try.prog 157 1 1 := ⟨_, _, 0, Try.underlying157, rfl, rfl, by kernel_rfl⟩
instance : TEq Try.prog 157 [0, 0] := ⟨by kernel_rfl, by kernel_rfl, _, Try.underlying157⟩
instance : TEl Try.prog 157 2 16 (.agg #[.int .i64 0, .int .i64 0]) := ⟨by kernel_rfl, rfl, by decide⟩
instance : TZero Try.prog 157 [.int .i64 0, .int .i64 0] := ⟨.agg #[.int .i64 0, .int .i64 0], by kernel_rfl, rfl⟩
instance : TRow Try.prog 158 12 := ⟨⟨_, Try.underlying158, rfl⟩, by kernel_rfl⟩
instance : TFld Try.prog 158 0 0 := ⟨_, _, 1, Try.underlying158, rfl, rfl, by kernel_rfl⟩
instance : TFld Try.prog 158 1 2 := ⟨_, _, 1, Try.underlying158, rfl, rfl, by kernel_rfl⟩
instance : TFld Try.prog 158 2 4 := ⟨_, _, 1, Try.underlying158, rfl, rfl, by kernel_rfl⟩
instance : TFld Try.prog 158 3 6 := ⟨_, _, 1, Try.underlying158, rfl, rfl, by kernel_rfl⟩
instance : TFld Try.prog 158 4 8 := ⟨_, _, 1, Try.underlying158, rfl, rfl, by kernel_rfl⟩
instance : TFld Try.prog 158 5 10 := ⟨_, _, 1, Try.underlying158, rfl, rfl, by kernel_rfl⟩
instance : TEq Try.prog 158 [0, 0, 0, 0, 0, 0, 0, 0, 0, 0, 0, 0] := ⟨by kernel_rfl, by kernel_rfl, _, Try.underlying158⟩
instance : TEl Try.prog 158 12 96 (.agg #[.int .i64 0, .int .i64 0, .int .i64 0, .int .i64 0, .int .i64 0, .int .i64 0, .int .i64 0, .int .i64 0, .int .i64 0, .int .i64 0, .int .i64 0, .int .i64 0]) := ⟨by kernel_rfl, rfl, by decide⟩
instance : TZero Try.prog 158 [.int .i64 0, .int .i64 0, .int .i64 0, .int .i64 0, .int .i64 0, .int .i64 0, .int .i64 0, .int .i64 0, .int .i64 0, .int .i64 0, .int .i64 0, .int .i64 0] := ⟨.agg #[.int .i64 0, .int .i64 0, .int .i64 0, .int .i64 0, .int .i64 0, .int .i64 0, .int .i64 0, .int .i64 0, .int .i64 0, .int .i64 0, .int .i64 0, .int .i64 0], by kernel_rfl, rfl⟩
instance : TRow Try.prog 159 12 := ⟨⟨_, Try.underlying159, rfl⟩, by kernel_rfl⟩
instance : TFld Try.prog 159 0 0 := ⟨_, _, 1, Try.underlying159, rfl, rfl, by kernel_rfl⟩
instance : TFld Try.prog 159 1 2 := ⟨_, _, 1, Try.underlying159, rfl, rfl, by kernel_rfl⟩
instance : TFld Try.prog 159 2 4 := ⟨_, _, 1, Try.underlying159, rfl, rfl, by kernel_rfl⟩
instance : TFld Try.prog 159 3 6 := ⟨_, _, 1, Try.underlying159, rfl, rfl, by kernel_rfl⟩
instance : TFld Try.prog 159 4 8 := ⟨_, _, 1, Try.underlying159, rfl, rfl, by kernel_rfl⟩
instance : TFld Try.prog 159 5 10 := ⟨_, _, 1, Try.underlying159, rfl, rfl, by kernel_rfl⟩
instance : TEq Try.prog 159 [0, 0, 0, 0, 0, 0, 0, 0, 0, 0, 0, 0] := ⟨by kernel_rfl, by kernel_rfl, _, Try.underlying159⟩
instance : TEl Try.prog 159 12 96 (.agg #[.int .i64 0, .int .i64 0, .int .i64 0, .int .i64 0, .int .i64 0, .int .i64 0, .int .i64 0, .int .i64 0, .int .i64 0, .int .i64 0, .int .i64 0, .int .i64 0]) := ⟨by kernel_rfl, rfl, by decide⟩
instance : TZero Try.prog 159 [.int .i64 0, .int .i64 0, .int .i64 0, .int .i64 0, .int .i64 0, .int .i64 0, .int .i64 0, .int .i64 0, .int .i64 0, .int .i64 0, .int .i64 0, .int .i64 0] := ⟨.agg #[.int .i64 0, .int .i64 0, .int .i64 0, .int .i64 0, .int .i64 0, .int .i64 0, .int .i64 0, .int .i64 0, .int .i64 0, .int .i64 0, .int .i64 0, .int .i64 0], by kernel_rfl, rfl⟩
instance : TRow Try.prog 160 4 := ⟨⟨_, Try.underlying160, rfl⟩, by kernel_rfl⟩
instance : TFld Try.prog 160 0 0 := ⟨_, _, 0, Try.underlying160, rfl, rfl, by kernel_rfl⟩
instance : TFld Try.prog 160 1 1 := ⟨_, _, 0, Try.underlying160, rfl, rfl, by kernel_rfl⟩
instance : TFld Try.prog 160 2 2 := ⟨_, _, 0, Try.underlying160, rfl, rfl, by kernel_rfl⟩
instance : TFld Try.prog 160 3 3 := ⟨_, _, 0, Try.underlying160, rfl, rfl, by kernel_rfl⟩
instance : TEq Try.prog 160 [0, 0, 0, 0] := ⟨by kernel_rfl, by kernel_rfl, _, Try.underlying160⟩
instance : TEl Try.prog 160 4 32 (.agg #[.int .i64 0, .int .i64 0, .int .i64 0, .int .i64 0]) := ⟨by kernel_rfl, rfl, by decide⟩
instance : TZero Try.prog 160 [.int .i64 0, .int .i64 0, .int .i64 0, .int .i64 0] := ⟨.agg #[.int .i64 0, .int .i64 0, .int .i64 0, .int .i64 0], by kernel_rfl, rfl⟩
instance : TRow Try.prog 161 60 := ⟨⟨_, Try.underlying161, rfl⟩, by kernel_rfl⟩
instance : TFld Try.prog 161 0 0 := ⟨_, _, 0, Try.underlying161, rfl, rfl, by kernel_rfl⟩
instance : TFld Try.prog 161 1 1 := ⟨_, _, 0, Try.underlying161, rfl, rfl, by kernel_rfl⟩
instance : TFld Try.prog 161 2 2 := ⟨_, _, 0, Try.underlying161, rfl, rfl, by kernel_rfl⟩
instance : TFld Try.prog 161 3 3 := ⟨_, _, 0, Try.underlying161, rfl, rfl, by kernel_rfl⟩
instance : TFld Try.prog 161 4 4 := ⟨_, _, 0, Try.underlying161, rfl, rfl, by kernel_rfl⟩
instance : TFld Try.prog 161 5 5 := ⟨_, _, 0, Try.underlying161, rfl, rfl, by kernel_rfl⟩
instance : TFld Try.prog 161 6 6 := ⟨_, _, 0, Try.underlying161, rfl, rfl, by kernel_rfl⟩
instance : TFld Try.prog 161 7 7 := ⟨_, _, 0, Try.underlying161, rfl, rfl, by kernel_rfl⟩
instance : TFld Try.prog 161 8 8 := ⟨_, _, 0, Try.underlying161, rfl, rfl, by kernel_rfl⟩
instance : TFld Try.prog 161 9 9 := ⟨_, _, 0, Try.underlying161, rfl, rfl, by kernel_rfl⟩
instance : TFld Try.prog 161 10 10 := ⟨_, _, 0, Try.underlying161, rfl, rfl, by kernel_rfl⟩
instance : TFld Try.prog 161 11 11 := ⟨_, _, 1, Try.underlying161, rfl, rfl, by kernel_rfl⟩
instance : TFld Try.prog 161 12 13 := ⟨_, _, 1, Try.underlying161, rfl, rfl, by kernel_rfl⟩
instance : TFld Try.prog 161 13 15 := ⟨_, _, 1, Try.underlying161, rfl, rfl, by kernel_rfl⟩
instance : TFld Try.prog 161 14 17 := ⟨_, _, 1, Try.underlying161, rfl, rfl, by kernel_rfl⟩
instance : TFld Try.prog 161 15 19 := ⟨_, _, 1, Try.underlying161, rfl, rfl, by kernel_rfl⟩
instance : TFld Try.prog 161 16 21 := ⟨_, _, 1, Try.underlying161, rfl, rfl, by kernel_rfl⟩
instance : TFld Try.prog 161 17 23 := ⟨_, _, 1, Try.underlying161, rfl, rfl, by kernel_rfl⟩
instance : TFld Try.prog 161 18 25 := ⟨_, _, 0, Try.underlying161, rfl, rfl, by kernel_rfl⟩
instance : TFld Try.prog 161 19 26 := ⟨_, _, 11, Try.underlying161, rfl, rfl, by kernel_rfl⟩
instance : TFld Try.prog 161 20 38 := ⟨_, _, 11, Try.underlying161, rfl, rfl, by kernel_rfl⟩
instance : TFld Try.prog 161 21 50 := ⟨_, _, 3, Try.underlying161, rfl, rfl, by kernel_rfl⟩
instance : TFld Try.prog 161 22 54 := ⟨_, _, 3, Try.underlying161, rfl, rfl, by kernel_rfl⟩
instance : TFld Try.prog 161 23 58 := ⟨_, _, 0, Try.underlying161, rfl, rfl, by kernel_rfl⟩
instance : TFld Try.prog 161 24 59 := ⟨_, _, 0, Try.underlying161, rfl, rfl, by kernel_rfl⟩
instance : TEq Try.prog 161 [0, 0, 0, 0, 0, 0, 1, 1, 0, 0, 0, 0, 0, 0, 0, 0, 0, 0, 0, 0, 0, 0, 0, 0, 0, 0, 0, 0, 0, 0, 0, 0, 0, 0, 0, 0, 0, 0, 0, 0, 0, 0, 0, 0, 0, 0, 0, 0, 0, 0, 0, 0, 0, 0, 0, 0, 0, 0, 0, 0] := ⟨by kernel_rfl, by kernel_rfl, _, Try.underlying161⟩
instance : TEl Try.prog 161 60 472 (.agg #[.int .i64 0, .int .i64 0, .int .i64 0, .int .i64 0, .int .i64 0, .int .i64 0, .bool false, .bool false, .int .i64 0, .int .i64 0, .int .i64 0, .int .i64 0, .int .i64 0, .int .i64 0, .int .i64 0, .int .i64 0, .int .i64 0, .int .i64 0, .int .i64 0, .int .i64 0, .int .i64 0, .int .i64 0, .int .i64 0, .int .i64 0, .int .i64 0, .int .i64 0, .int .i64 0, .int .i64 0, .int .i64 0, .int .i64 0, .int .i64 0, .int .i64 0, .int .i64 0, .int .i64 0, .int .i64 0, .int .i64 0, .int .i64 0, .int .i64 0, .int .i64 0, .int .i64 0, .int .i64 0, .int .i64 0, .int .i64 0, .int .i64 0, .int .i64 0, .int .i64 0, .int .i64 0, .int .i64 0, .int .i64 0, .int .i64 0, .int .i64 0, .int .i64 0, .int .i64 0, .int .i64 0, .int .i64 0, .int .i64 0, .int .i64 0, .int .i64 0, .int .i64 0, .int .i64 0]) := ⟨by kernel_rfl, rfl, by decide⟩
instance : TZero Try.prog 161 [.int .i64 0, .int .i64 0, .int .i64 0, .int .i64 0, .int .i64 0, .int .i64 0, .bool false, .bool false, .int .i64 0, .int .i64 0, .int .i64 0, .int .i64 0, .int .i64 0, .int .i64 0, .int .i64 0, .int .i64 0, .int .i64 0, .int .i64 0, .int .i64 0, .int .i64 0, .int .i64 0, .int .i64 0, .int .i64 0, .int .i64 0, .int .i64 0, .int .i64 0, .int .i64 0, .int .i64 0, .int .i64 0, .int .i64 0, .int .i64 0, .int .i64 0, .int .i64 0, .int .i64 0, .int .i64 0, .int .i64 0, .int .i64 0, .int .i64 0, .int .i64 0, .int .i64 0, .int .i64 0, .int .i64 0, .int .i64 0, .int .i64 0, .int .i64 0, .int .i64 0, .int .i64 0, .int .i64 0, .int .i64 0, .int .i64 0, .int .i64 0, .int .i64 0, .int .i64 0, .int .i64 0, .int .i64 0, .int .i64 0, .int .i64 0, .int .i64 0, .int .i64 0, .int .i64 0] := ⟨.agg #[.int .i64 0, .int .i64 0, .int .i64 0, .int .i64 0, .int .i64 0, .int .i64 0, .bool false, .bool false, .int .i64 0, .int .i64 0, .int .i64 0, .int .i64 0, .int .i64 0, .int .i64 0, .int .i64 0, .int .i64 0, .int .i64 0, .int .i64 0, .int .i64 0, .int .i64 0, .int .i64 0, .int .i64 0, .int .i64 0, .int .i64 0, .int .i64 0, .int .i64 0, .int .i64 0, .int .i64 0, .int .i64 0, .int .i64 0, .int .i64 0, .int .i64 0, .int .i64 0, .int .i64 0, .int .i64 0, .int .i64 0, .int .i64 0, .int .i64 0, .int .i64 0, .int .i64 0, .int .i64 0, .int .i64 0, .int .i64 0, .int .i64 0, .int .i64 0, .int .i64 0, .int .i64 0, .int .i64 0, .int .i64 0, .int .i64 0, .int .i64 0, .int .i64 0, .int .i64 0, .int .i64 0, .int .i64 0, .int .i64 0, .int .i64 0, .int .i64 0, .int .i64 0, .int .i64 0], by kernel_rfl, rfl⟩
instance : TRow Try.prog 162 60 := ⟨⟨_, Try.underlying162, rfl⟩, by kernel_rfl⟩
instance : TFld Try.prog 162 0 0 := ⟨_, _, 0, Try.underlying162, rfl, rfl, by kernel_rfl⟩
instance : TFld Try.prog 162 1 1 := ⟨_, _, 0, Try.underlying162, rfl, rfl, by kernel_rfl⟩
instance : TFld Try.prog 162 2 2 := ⟨_, _, 0, Try.underlying162, rfl, rfl, by kernel_rfl⟩
instance : TFld Try.prog 162 3 3 := ⟨_, _, 0, Try.underlying162, rfl, rfl, by kernel_rfl⟩
instance : TFld Try.prog 162 4 4 := ⟨_, _, 0, Try.underlying162, rfl, rfl, by kernel_rfl⟩
instance : TFld Try.prog 162 5 5 := ⟨_, _, 0, Try.underlying162, rfl, rfl, by kernel_rfl⟩
instance : TFld Try.prog 162 6 6 := ⟨_, _, 0, Try.underlying162, rfl, rfl, by kernel_rfl⟩
instance : TFld Try.prog 162 7 7 := ⟨_, _, 0, Try.underlying162, rfl, rfl, by kernel_rfl⟩
instance : TFld Try.prog 162 8 8 := ⟨_, _, 0, Try.underlying162, rfl, rfl, by kernel_rfl⟩
instance : TFld Try.prog 162 9 9 := ⟨_, _, 0, Try.underlying162, rfl, rfl, by kernel_rfl⟩
instance : TFld Try.prog 162 10 10 := ⟨_, _, 0, Try.underlying162, rfl, rfl, by kernel_rfl⟩
instance : TFld Try.prog 162 11 11 := ⟨_, _, 1, Try.underlying162, rfl, rfl, by kernel_rfl⟩
instance : TFld Try.prog 162 12 13 := ⟨_, _, 1, Try.underlying162, rfl, rfl, by kernel_rfl⟩
instance : TFld Try.prog 162 13 15 := ⟨_, _, 1, Try.underlying162, rfl, rfl, by kernel_rfl⟩
instance : TFld Try.prog 162 14 17 := ⟨_, _, 1, Try.underlying162, rfl, rfl, by kernel_rfl⟩
instance : TFld Try.prog 162 15 19 := ⟨_, _, 1, Try.underlying162, rfl, rfl, by kernel_rfl⟩
instance : TFld Try.prog 162 16 21 := ⟨_, _, 1, Try.underlying162, rfl, rfl, by kernel_rfl⟩
instance : TFld Try.prog 162 17 23 := ⟨_, _, 1, Try.underlying162, rfl, rfl, by kernel_rfl⟩
instance : TFld Try.prog 162 18 25 := ⟨_, _, 0, Try.underlying162, rfl, rfl, by kernel_rfl⟩
instance : TFld Try.prog 162 19 26 := ⟨_, _, 11, Try.underlying162, rfl, rfl, by kernel_rfl⟩
instance : TFld Try.prog 162 20 38 := ⟨_, _, 11, Try.underlying162, rfl, rfl, by kernel_rfl⟩
instance : TFld Try.prog 162 21 50 := ⟨_, _, 3, Try.underlying162, rfl, rfl, by kernel_rfl⟩
instance : TFld Try.prog 162 22 54 := ⟨_, _, 3, Try.underlying162, rfl, rfl, by kernel_rfl⟩
instance : TFld Try.prog 162 23 58 := ⟨_, _, 0, Try.underlying162, rfl, rfl, by kernel_rfl⟩
instance : TFld Try.prog 162 24 59 := ⟨_, _, 0, Try.underlying162, rfl, rfl, by kernel_rfl⟩
instance : TEq Try.prog 162 [0, 0, 0, 0, 0, 0, 1, 1, 0, 0, 0, 0, 0, 0, 0, 0, 0, 0, 0, 0, 0, 0, 0, 0, 0, 0, 0, 0, 0, 0, 0, 0, 0, 0, 0, 0, 0, 0, 0, 0, 0, 0, 0, 0, 0, 0, 0, 0, 0, 0, 0, 0, 0, 0, 0, 0, 0, 0, 0, 0] := ⟨by kernel_rfl, by kernel_rfl, _, Try.underlying162⟩
instance : TEl Try.prog 162 60 472 (.agg #[.int .i64 0, .int .i64 0, .int .i64 0, .int .i64 0, .int .i64 0, .int .i64 0, .bool false, .bool false, .int .i64 0, .int .i64 0, .int .i64 0, .int .i64 0, .int .i64 0, .int .i64 0, .int .i64 0, .int .i64 0, .int .i64 0, .int .i64 0, .int .i64 0, .int .i64 0, .int .i64 0, .int .i64 0, .int .i64 0, .int .i64 0, .int .i64 0, .int .i64 0, .int .i64 0, .int .i64 0, .int .i64 0, .int .i64 0, .int .i64 0, .int .i64 0, .int .i64 0, .int .i64 0, .int .i64 0, .int .i64 0, .int .i64 0, .int .i64 0, .int .i64 0, .int .i64 0, .int .i64 0, .int .i64 0, .int .i64 0, .int .i64 0, .int .i64 0, .int .i64 0, .int .i64 0, .int .i64 0, .int .i64 0, .int .i64 0, .int .i64 0, .int .i64 0, .int .i64 0, .int .i64 0, .int .i64 0, .int .i64 0, .int .i64 0, .int .i64 0, .int .i64 0, .int .i64 0]) := ⟨by kernel_rfl, rfl, by decide⟩
instance : TZero Try.prog 162 [.int .i64 0, .int .i64 0, .int .i64 0, .int .i64 0, .int .i64 0, .int .i64 0, .bool false, .bool false, .int .i64 0, .int .i64 0, .int .i64 0, .int .i64 0, .int .i64 0, .int .i64 0, .int .i64 0, .int .i64 0, .int .i64 0, .int .i64 0, .int .i64 0, .int .i64 0, .int .i64 0, .int .i64 0, .int .i64 0, .int .i64 0, .int .i64 0, .int .i64 0, .int .i64 0, .int .i64 0, .int .i64 0, .int .i64 0, .int .i64 0, .int .i64 0, .int .i64 0, .int .i64 0, .int .i64 0, .int .i64 0, .int .i64 0, .int .i64 0, .int .i64 0, .int .i64 0, .int .i64 0, .int .i64 0, .int .i64 0, .int .i64 0, .int .i64 0, .int .i64 0, .int .i64 0, .int .i64 0, .int .i64 0, .int .i64 0, .int .i64 0, .int .i64 0, .int .i64 0, .int .i64 0, .int .i64 0, .int .i64 0, .int .i64 0, .int .i64 0, .int .i64 0, .int .i64 0] := ⟨.agg #[.int .i64 0, .int .i64 0, .int .i64 0, .int .i64 0, .int .i64 0, .int .i64 0, .bool false, .bool false, .int .i64 0, .int .i64 0, .int .i64 0, .int .i64 0, .int .i64 0, .int .i64 0, .int .i64 0, .int .i64 0, .int .i64 0, .int .i64 0, .int .i64 0, .int .i64 0, .int .i64 0, .int .i64 0, .int .i64 0, .int .i64 0, .int .i64 0, .int .i64 0, .int .i64 0, .int .i64 0, .int .i64 0, .int .i64 0, .int .i64 0, .int .i64 0, .int .i64 0, .int .i64 0, .int .i64 0, .int .i64 0, .int .i64 0, .int .i64 0, .int .i64 0, .int .i64 0, .int .i64 0, .int .i64 0, .int .i64 0, .int .i64 0, .int .i64 0, .int .i64 0, .int .i64 0, .int .i64 0, .int .i64 0, .int .i64 0, .int .i64 0, .int .i64 0, .int .i64 0, .int .i64 0, .int .i64 0, .int .i64 0, .int .i64 0, .int .i64 0, .int .i64 0, .int .i64 0], by kernel_rfl, rfl⟩
instance : TOne Try.prog 163 := ⟨⟨_, Try.underlying163, rfl⟩, by kernel_rfl⟩
instance : TSl Try.prog 163 221 3 := ⟨Try.underlying163, by kernel_rfl⟩
instance : TEl Try.prog 163 1 24 (.slice none 0 0) := ⟨by kernel_rfl, rfl, by decide⟩
instance : TZero Try.prog 163 [.slice none 0 0] := ⟨.slice none 0 0, by kernel_rfl, rfl⟩
instance : TRow Try.prog 164 1 := ⟨⟨_, Try.underlying164, rfl⟩, by kernel_rfl⟩
instance : TFld Try.prog 164 0 0 := ⟨_, _, 0, Try.underlying164, rfl, rfl, by kernel_rfl⟩
instance : TEl Try.prog 164 1 24 (.agg #[.slice none 0 0]) := ⟨by kernel_rfl, rfl, by decide⟩
instance : TZero Try.prog 164 [.slice none 0 0] := ⟨.agg #[.slice none 0 0], by kernel_rfl, rfl⟩
instance : TRow Try.prog 165 1 := ⟨⟨_, Try.underlying165, rfl⟩, by kernel_rfl⟩
instance : TFld Try.prog 165 0 0 := ⟨_, _, 0, Try.underlying165, rfl, rfl, by kernel_rfl⟩
instance : TEl Try.prog 165 1 24 (.agg #[.slice none 0 0]) := ⟨by kernel_rfl, rfl, by decide⟩
instance : TZero Try.prog 165 [.slice none 0 0] := ⟨.agg #[.slice none 0 0], by kernel_rfl, rfl⟩
instance : TRow Try.prog 166 64 := ⟨⟨_, Try.underlying166, rfl⟩, by kernel_rfl⟩
instance : TFld Try.prog 166 0 0 := ⟨_, _, 0, Try.underlying166, rfl, rfl, by kernel_rfl⟩
instance : TFld Try.prog 166 1 1 := ⟨_, _, 0, Try.underlying166, rfl, rfl, by kernel_rfl⟩
instance : TFld Try.prog 166 2 2 := ⟨_, _, 59, Try.underlying166, rfl, rfl, by kernel_rfl⟩
instance : TFld Try.prog 166 3 62 := ⟨_, _, 0, Try.underlying166, rfl, rfl, by kernel_rfl⟩
instance : TFld Try.prog 166 4 63 := ⟨_, _, 0, Try.underlying166, rfl, rfl, by kernel_rfl⟩
instance : TEl Try.prog 166 64 536 (.agg #[.int .i64 0, .slice none 0 0, .int .i64 0, .int .i64 0, .int .i64 0, .int .i64 0, .int .i64 0, .int .i64 0, .bool false, .bool false, .int .i64 0, .int .i64 0, .int .i64 0, .int .i64 0, .int .i64 0, .int .i64 0, .int .i64 0, .int .i64 0, .int .i64 0, .int .i64 0, .int .i64 0, .int .i64 0, .int .i64 0, .int .i64 0, .int .i64 0, .int .i64 0, .int .i64 0, .int .i64 0, .int .i64 0, .int .i64 0, .int .i64 0, .int .i64 0, .int .i64 0, .int .i64 0, .int .i64 0, .int .i64 0, .int .i64 0, .int .i64 0, .int .i64 0, .int .i64 0, .int .i64 0, .int .i64 0, .int .i64 0, .int .i64 0, .int .i64 0, .int .i64 0, .int .i64 0, .int .i64 0, .int .i64 0, .int .i64 0, .int .i64 0, .int .i64 0, .int .i64 0, .int .i64 0, .int .i64 0, .int .i64 0, .int .i64 0, .int .i64 0, .int .i64 0, .int .i64 0, .int .i64 0, .int .i64 0, .bool false, .slice none 0 0]) := ⟨by kernel_rfl, rfl, by decide⟩
instance : TZero Try.prog 166 [.int .i64 0, .slice none 0 0, .int .i64 0, .int .i64 0, .int .i64 0, .int .i64 0, .int .i64 0, .int .i64 0, .bool false, .bool false, .int .i64 0, .int .i64 0, .int .i64 0, .int .i64 0, .int .i64 0, .int .i64 0, .int .i64 0, .int .i64 0, .int .i64 0, .int .i64 0, .int .i64 0, .int .i64 0, .int .i64 0, .int .i64 0, .int .i64 0, .int .i64 0, .int .i64 0, .int .i64 0, .int .i64 0, .int .i64 0, .int .i64 0, .int .i64 0, .int .i64 0, .int .i64 0, .int .i64 0, .int .i64 0, .int .i64 0, .int .i64 0, .int .i64 0, .int .i64 0, .int .i64 0, .int .i64 0, .int .i64 0, .int .i64 0, .int .i64 0, .int .i64 0, .int .i64 0, .int .i64 0, .int .i64 0, .int .i64 0, .int .i64 0, .int .i64 0, .int .i64 0, .int .i64 0, .int .i64 0, .int .i64 0, .int .i64 0, .int .i64 0, .int .i64 0, .int .i64 0, .int .i64 0, .int .i64 0, .bool false, .slice none 0 0] := ⟨.agg #[.int .i64 0, .slice none 0 0, .int .i64 0, .int .i64 0, .int .i64 0, .int .i64 0, .int .i64 0, .int .i64 0, .bool false, .bool false, .int .i64 0, .int .i64 0, .int .i64 0, .int .i64 0, .int .i64 0, .int .i64 0, .int .i64 0, .int .i64 0, .int .i64 0, .int .i64 0, .int .i64 0, .int .i64 0, .int .i64 0, .int .i64 0, .int .i64 0, .int .i64 0, .int .i64 0, .int .i64 0, .int .i64 0, .int .i64 0, .int .i64 0, .int .i64 0, .int .i64 0, .int .i64 0, .int .i64 0, .int .i64 0, .int .i64 0, .int .i64 0, .int .i64 0, .int .i64 0, .int .i64 0, .int .i64 0, .int .i64 0, .int .i64 0, .int .i64 0, .int .i64 0, .int .i64 0, .int .i64 0, .int .i64 0, .int .i64 0, .int .i64 0, .int .i64 0, .int .i64 0, .int .i64 0, .int .i64 0, .int .i64 0, .int .i64 0, .int .i64 0, .int .i64 0, .int .i64 0, .int .i64 0, .int .i64 0, .bool false, .slice none 0 0], by kernel_rfl, rfl⟩
instance : TRow Try.prog 167 64 := ⟨⟨_, Try.underlying167, rfl⟩, by kernel_rfl⟩
instance : TFld Try.prog 167 0 0 := ⟨_, _, 0, Try.underlying167, rfl, rfl, by kernel_rfl⟩
instance : TFld Try.prog 167 1 1 := ⟨_, _, 0, Try.underlying167, rfl, rfl, by kernel_rfl⟩
instance : TFld Try.prog 167 2 2 := ⟨_, _, 59, Try.underlying167, rfl, rfl, by kernel_rfl⟩
instance : TFld Try.prog 167 3 62 := ⟨_, _, 0, Try.underlying167, rfl, rfl, by kernel_rfl⟩
instance : TFld Try.prog 167 4 63 := ⟨_, _, 0, Try.underlying167, rfl, rfl, by kernel_rfl⟩
instance : TEl Try.prog 167 64 536 (.agg #[.int .i64 0, .slice none 0 0, .int .i64 0, .int .i64 0, .int .i64 0, .int .i64 0, .int .i64 0, .int .i64 0, .bool false, .bool false, .int .i64 0, .int .i64 0, .int .i64 0, .int .i64 0, .int .i64 0, .int .i64 0, .int .i64 0, .int .i64 0, .int .i64 0, .int .i64 0, .int .i64 0, .int .i64 0, .int .i64 0, .int .i64 0, .int .i64 0, .int .i64 0, .int .i64 0, .int .i64 0, .int .i64 0, .int .i64 0, .int .i64 0, .int .i64 0, .int .i64 0, .int .i64 0, .int .i64 0, .int .i64 0, .int .i64 0, .int .i64 0, .int .i64 0, .int .i64 0, .int .i64 0, .int .i64 0, .int .i64 0, .int .i64 0, .int .i64 0, .int .i64 0, .int .i64 0, .int .i64 0, .int .i64 0, .int .i64 0, .int .i64 0, .int .i64 0, .int .i64 0, .int .i64 0, .int .i64 0, .int .i64 0, .int .i64 0, .int .i64 0, .int .i64 0, .int .i64 0, .int .i64 0, .int .i64 0, .bool false, .slice none 0 0]) := ⟨by kernel_rfl, rfl, by decide⟩
instance : TZero Try.prog 167 [.int .i64 0, .slice none 0 0, .int .i64 0, .int .i64 0, .int .i64 0, .int .i64 0, .int .i64 0, .int .i64 0, .bool false, .bool false, .int .i64 0, .int .i64 0, .int .i64 0, .int .i64 0, .int .i64 0, .int .i64 0, .int .i64 0, .int .i64 0, .int .i64 0, .int .i64 0, .int .i64 0, .int .i64 0, .int .i64 0, .int .i64 0, .int .i64 0, .int .i64 0, .int .i64 0, .int .i64 0, .int .i64 0, .int .i64 0, .int .i64 0, .int .i64 0, .int .i64 0, .int .i64 0, .int .i64 0, .int .i64 0, .int .i64 0, .int .i64 0, .int .i64 0, .int .i64 0, .int .i64 0, .int .i64 0, .int .i64 0, .int .i64 0, .int .i64 0, .int .i64 0, .int .i64 0, .int .i64 0, .int .i64 0, .int .i64 0, .int .i64 0, .int .i64 0, .int .i64 0, .int .i64 0, .int .i64 0, .int .i64 0, .int .i64 0, .int .i64 0, .int .i64 0, .int .i64 0, .int .i64 0, .int .i64 0, .bool false, .slice none 0 0] := ⟨.agg #[.int .i64 0, .slice none 0 0, .int .i64 0, .int .i64 0, .int .i64 0, .int .i64 0, .int .i64 0, .int .i64 0, .bool false, .bool false, .int .i64 0, .int .i64 0, .int .i64 0, .int .i64 0, .int .i64 0, .int .i64 0, .int .i64 0, .int .i64 0, .int .i64 0, .int .i64 0, .int .i64 0, .int .i64 0, .int .i64 0, .int .i64 0, .int .i64 0, .int .i64 0, .int .i64 0, .int .i64 0, .int .i64 0, .int .i64 0, .int .i64 0, .int .i64 0, .int .i64 0, .int .i64 0, .int .i64 0, .int .i64 0, .int .i64 0, .int .i64 0, .int .i64 0, .int .i64 0, .int .i64 0, .int .i64 0, .int .i64 0, .int .i64 0, .int .i64 0, .int .i64 0, .int .i64 0, .int .i64 0, .int .i64 0, .int .i64 0, .int .i64 0, .int .i64 0, .int .i64 0, .int .i64 0, .int .i64 0, .int .i64 0, .int .i64 0, .int .i64 0, .int .i64 0, .int .i64 0, .int .i64 0, .int .i64 0, .bool false, .slice none 0 0], by kernel_rfl, rfl⟩
instance : TRow Try.prog 169 2 := ⟨⟨_, Try.underlying169, rfl⟩, by kernel_rfl⟩
instance : TFld Try.prog 169 0 0 := ⟨_, _, 0, Try.underlying169, rfl, rfl, by kernel_rfl⟩
instance : TFld Try.prog 169 1 1 := ⟨_, _, 0, Try.underlying169, rfl, rfl, by kernel_rfl⟩
instance : TEq Try.prog 169 [0, 0] := ⟨by kernel_rfl, by kernel_rfl, _, Try.underlying169⟩
instance : TEl Try.prog 169 2 16 (.agg #[.int .i64 0, .int .i64 0]) := ⟨by kernel_rfl, rfl, by decide⟩
instance : TZero Try.prog 169 [.int .i64 0, .int .i64 0] := ⟨.agg #[.int .i64 0, .int .i64 0], by kernel_rfl, rfl⟩
instance : TRow Try.prog 170 4 := ⟨⟨_, Try.underlying170, rfl⟩, by kernel_rfl⟩
instance : TFld Try.prog 170 0 0 := ⟨_, _, 0, Try.underlying170, rfl, rfl, by kernel_rfl⟩
instance : TFld Try.prog 170 1 1 := ⟨_, _, 0, Try.underlying170, rfl, rfl, by kernel_rfl⟩
instance : TFld Try.prog 170 2 2 := ⟨_, _, 0, Try.underlying170, rfl, rfl, by kernel_rfl⟩
instance : TFld Try.prog 170 3 3 := ⟨_, _, 0, Try.underlying170, rfl, rfl, by kernel_rfl⟩
instance : TEl Try.prog 170 4 48 (.agg #[.int .i64 0, .int .i64 0, .int .i64 0, .slice none 0 0]) := ⟨by kernel_rfl, rfl, by decide⟩
instance : TZero Try.prog 170 [.int .i64 0, .int .i64 0, .int .i64 0, .slice none 0 0] := ⟨.agg #[.int .i64 0, .int .i64 0, .int .i64 0, .slice none 0 0], by kernel_rfl, rfl⟩
instance : TRow Try.prog 171 4 := ⟨⟨_, Try.underlying171, rfl⟩, by kernel_rfl⟩
instance : TFld Try.prog 171 0 0 := ⟨_, _, 0, Try.underlying171, rfl, rfl, by kernel_rfl⟩
instance : TFld Try.prog 171 1 1 := ⟨_, _, 0, Try.underlying171, rfl, rfl, by kernel_rfl⟩
instance : TFld Try.prog 171 2 2 := ⟨_, _, 0, Try.underlying171, rfl, rfl, by kernel_rfl⟩
instance : TFld Try.prog 171 3 3 := ⟨_, _, 0, Try.underlying171, rfl, rfl, by kernel_rfl⟩
instance : TEl Try.prog 171 4 48 (.agg #[.int .i64 0, .int .i64 0, .int .i64 0, .slice none 0 0]) := ⟨by kernel_rfl, rfl, by decide⟩
instance : TZero Try.prog 171 [.int .i64 0, .int .i64 0, .int .i64 0, .slice none 0 0] := ⟨.agg #[.int .i64 0, .int .i64 0, .int .i64 0, .slice none 0 0], by kernel_rfl, rfl⟩
instance : TRow Try.prog 172 10 := ⟨⟨_, Try.underlying172, rfl⟩, by kernel_rfl⟩
instance : TFld Try.prog 172 0 0 := ⟨_, _, 0, Try.underlying172, rfl, rfl, by kernel_rfl⟩
instance : TFld Try.prog 172 1 1 := ⟨_, _, 1, Try.underlying172, rfl, rfl, by kernel_rfl⟩
instance : TFld Try.prog 172 2 3 := ⟨_, _, 1, Try.underlying172, rfl, rfl, by kernel_rfl⟩
instance : TFld Try.prog 172 3 5 := ⟨_, _, 0, Try.underlying172, rfl, rfl, by kernel_rfl⟩
instance : TFld Try.prog 172 4 6 := ⟨_, _, 3, Try.underlying172, rfl, rfl, by kernel_rfl⟩
instance : TEl Try.prog 172 10 96 (.agg #[.int .i64 0, .int .i64 0, .int .i64 0, .int .i64 0, .int .i64 0, .bool false, .int .i64 0, .int .i64 0, .int .i64 0, .slice none 0 0]) := ⟨by kernel_rfl, rfl, by decide⟩
instance : TZero Try.prog 172 [.int .i64 0, .int .i64 0, .int .i64 0, .int .i64 0, .int .i64 0, .bool false, .int .i64 0, .int .i64 0, .int .i64 0, .slice none 0 0] := ⟨.agg #[.int .i64 0, .int .i64 0, .int .i64 0, .int .i64 0, .int .i64 0, .bool false, .int .i64 0, .int .i64 0, .int .i64 0, .slice none 0 0], by kernel_rfl, rfl⟩
instance : TRow Try.prog 173 10 := ⟨⟨_, Try.underlying173, rfl⟩, by kernel_rfl⟩
instance : TFld Try.prog 173 0 0 := ⟨_, _, 0, Try.underlying173, rfl, rfl, by kernel_rfl⟩
instance : TFld Try.prog 173 1 1 := ⟨_, _, 1, Try.underlying173, rfl, rfl, by kernel_rfl⟩
instance : TFld Try.prog 173 2 3 := ⟨_, _, 1, Try.underlying173, rfl, rfl, by kernel_rfl⟩
instance : TFld Try.prog 173 3 5 := ⟨_, _, 0, Try.underlying173, rfl, rfl, by kernel_rfl⟩
instance : TFld Try.prog 173 4 6 := ⟨_, _, 3, Try.underlying173, rfl, rfl, by kernel_rfl⟩
instance : TEl Try.prog 173 10 96 (.agg #[.int .i64 0, .int .i64 0, .int .i64 0, .int .i64 0, .int .i64 0, .bool false, .int .i64 0, .int .i64 0, .int .i64 0, .slice none 0 0]) := ⟨by kernel_rfl, rfl, by decide⟩
instance : TZero Try.prog 173 [.int .i64 0, .int .i64 0, .int .i64 0, .int .i64 0, .int .i64 0, .bool false, .int .i64 0, .int .i64 0, .int .i64 0, .slice none 0 0] := ⟨.agg #[.int .i64 0, .int .i64 0, .int .i64 0, .int .i64 0, .int .i64 0, .bool false, .int .i64 0, .int .i64 0, .int .i64 0, .slice none 0 0], by kernel_rfl, rfl⟩
instance : TRow Try.prog 175 4 := ⟨⟨_, Try.underlying175, rfl⟩, by kernel_rfl⟩
instance : TFld Try.prog 175 0 0 := ⟨_, _, 0, Try.underlying175, rfl, rfl, by kernel_rfl⟩
instance : TFld Try.prog 175 1 1 := ⟨_, _, 0, Try.underlying175, rfl, rfl, by kernel_rfl⟩
instance : TFld Try.prog 175 2 2 := ⟨_, _, 0, Try.underlying175, rfl, rfl, by kernel_rfl⟩
instance : TFld Try.prog 175 3 3 := ⟨_, _, 0, Try.underlying175, rfl, rfl, by kernel_rfl⟩
instance : TEl Try.prog 175 4 48 (.agg #[.int .i64 0, .int .i64 0, .int .i64 0, .slice none 0 0]) := ⟨by kernel_rfl, rfl, by decide⟩
instance : TZero Try.prog 175 [.int .i64 0, .int .i64 0, .int .i64 0, .slice none 0 0] := ⟨.agg #[.int .i64 0, .int .i64 0, .int .i64 0, .slice none 0 0], by kernel_rfl, rfl⟩
instance : TRow Try.prog 176 4 := ⟨⟨_, Try.underlying176, rfl⟩, by kernel_rfl⟩
instance : TFld Try.prog 176 0 0 := ⟨_, _, 0, Try.underlying176, rfl, rfl, by kernel_rfl⟩
instance : TFld Try.prog 176 1 1 := ⟨_, _, 0, Try.underlying176, rfl, rfl, by kernel_rfl⟩
instance : TFld Try.prog 176 2 2 := ⟨_, _, 0, Try.underlying176, rfl, rfl, by kernel_rfl⟩
instance : TFld Try.prog 176 3 3 := ⟨_, _, 0, Try.underlying176, rfl, rfl, by kernel_rfl⟩
instance : TEl Try.prog 176 4 48 (.agg #[.int .i64 0, .int .i64 0, .int .i64 0, .slice none 0 0]) := ⟨by kernel_rfl, rfl, by decide⟩
instance : TZero Try.prog 176 [.int .i64 0, .int .i64 0, .int .i64 0, .slice none 0 0] := ⟨.agg #[.int .i64 0, .int .i64 0, .int .i64 0, .slice none 0 0], by kernel_rfl, rfl⟩
instance : TRow Try.prog 177 10 := ⟨⟨_, Try.underlying177, rfl⟩, by kernel_rfl⟩
instance : TFld Try.prog 177 0 0 := ⟨_, _, 0, Try.underlying177, rfl, rfl, by kernel_rfl⟩
instance : TFld Try.prog 177 1 1 := ⟨_, _, 1, Try.underlying177, rfl, rfl, by kernel_rfl⟩
instance : TFld Try.prog 177 2 3 := ⟨_, _, 1, Try.underlying177, rfl, rfl, by kernel_rfl⟩
instance : TFld Try.prog 177 3 5 := ⟨_, _, 0, Try.underlying177, rfl, rfl, by kernel_rfl⟩
instance : TFld Try.prog 177 4 6 := ⟨_, _, 3, Try.underlying177, rfl, rfl, by kernel_rfl⟩
instance : TEl Try.prog 177 10 96 (.agg #[.int .i64 0, .int .i64 0, .int .i64 0, .int .i64 0, .int .i64 0, .bool false, .int .i64 0, .int .i64 0, .int .i64 0, .slice none 0 0]) := ⟨by kernel_rfl, rfl, by decide⟩
instance : TZero Try.prog 177 [.int .i64 0, .int .i64 0, .int .i64 0, .int .i64 0, .int .i64 0, .bool false, .int .i64 0, .int .i64 0, .int .i64 0, .slice none 0 0] := ⟨.agg #[.int .i64 0, .int .i64 0, .int .i64 0, .int .i64 0, .int .i64 0, .bool false, .int .i64 0, .int .i64 0, .int .i64 0, .slice none 0 0], by kernel_rfl, rfl⟩
instance : TRow Try.prog 178 10 := ⟨⟨_, Try.underlying178, rfl⟩, by kernel_rfl⟩
instance : TFld Try.prog 178 0 0 := ⟨_, _, 0, Try.underlying178, rfl, rfl, by kernel_rfl⟩
instance : TFld Try.prog 178 1 1 := ⟨_, _, 1, Try.underlying178, rfl, rfl, by kernel_rfl⟩
instance : TFld Try.prog 178 2 3 := ⟨_, _, 1, Try.underlying178, rfl, rfl, by kernel_rfl⟩
instance : TFld Try.prog 178 3 5 := ⟨_, _, 0, Try.underlying178, rfl, rfl, by kernel_rfl⟩
instance : TFld Try.prog 178 4 6 := ⟨_, _, 3, Try.underlying178, rfl, rfl, by kernel_rfl⟩
instance : TEl Try.prog 178 10 96 (.agg #[.int .i64 0, .int .i64 0, .int .i64 0, .int .i64 0, .int .i64 0, .bool false, .int .i64 0, .int .i64 0, .int .i64 0, .slice none 0 0]) := ⟨by kernel_rfl, rfl, by decide⟩
instance : TZero Try.prog 178 [.int .i64 0, .int .i64 0, .int .i64 0, .int .i64 0, .int .i64 0, .bool false, .int .i64 0, .int .i64 0, .int .i64 0, .slice none 0 0] := ⟨.agg #[.int .i64 0, .int .i64 0, .int .i64 0, .int .i64 0, .int .i64 0, .bool false, .int .i64 0, .int .i64 0, .int .i64 0, .slice none 0 0], by kernel_rfl, rfl⟩
instance : TRow Try.prog 181 6 := ⟨⟨_, Try.underlying181, rfl⟩, by kernel_rfl⟩
instance : TFld Try.prog 181 0 0 := ⟨_, _, 0, Try.underlying181, rfl, rfl, by kernel_rfl⟩
instance : TFld Try.prog 181 1 1 := ⟨_, _, 1, Try.underlying181, rfl, rfl, by kernel_rfl⟩
instance : TFld Try.prog 181 2 3 := ⟨_, _, 1, Try.underlying181, rfl, rfl, by kernel_rfl⟩
instance : TFld Try.prog 181 3 5 := ⟨_, _, 0, Try.underlying181, rfl, rfl, by kernel_rfl⟩
instance : TEq Try.prog 181 [0, 0, 0, 0, 0, 1] := ⟨by kernel_rfl, by kernel_rfl, _, Try.underlying181⟩
instance : TEl Try.prog 181 6 48 (.agg #[.int .i64 0, .int .i64 0, .int .i64 0, .int .i64 0, .int .i64 0, .bool false]) := ⟨by kernel_rfl, rfl, by decide⟩
instance : TZero Try.prog 181 [.int .i64 0, .int .i64 0, .int .i64 0, .int .i64 0, .int .i64 0, .bool false] := ⟨.agg #[.int .i64 0, .int .i64 0, .int .i64 0, .int .i64 0, .int .i64 0, .bool false], by kernel_rfl, rfl⟩
instance : TRow Try.prog 182 6 := ⟨⟨_, Try.underlying182, rfl⟩, by kernel_rfl⟩
instance : TFld Try.prog 182 0 0 := ⟨_, _, 0, Try.underlying182, rfl, rfl, by kernel_rfl⟩
instance : TFld Try.prog 182 1 1 := ⟨_, _, 1, Try.underlying182, rfl, rfl, by kernel_rfl⟩
instance : TFld Try.prog 182 2 3 := ⟨_, _, 1, Try.underlying182, rfl, rfl, by kernel_rfl⟩
instance : TFld Try.prog 182 3 5 := ⟨_, _, 0, Try.underlying182, rfl, rfl, by kernel_rfl⟩
instance : TEq Try.prog 182 [0, 0, 0, 0, 0, 1] := ⟨by kernel_rfl, by kernel_rfl, _, Try.underlying182⟩
instance : TEl Try.prog 182 6 48 (.agg #[.int .i64 0, .int .i64 0, .int .i64 0, .int .i64 0, .int .i64 0, .bool false]) := ⟨by kernel_rfl, rfl, by decide⟩
instance : TZero Try.prog 182 [.int .i64 0, .int .i64 0, .int .i64 0, .int .i64 0, .int .i64 0, .bool false] := ⟨.agg #[.int .i64 0, .int .i64 0, .int .i64 0, .int .i64 0, .int .i64 0, .bool false], by kernel_rfl, rfl⟩
instance : TOne Try.prog 187 := ⟨⟨_, Try.underlying187, rfl⟩, by kernel_rfl⟩
instance : TEl Try.prog 187 1 8 (.int .u64 0) := ⟨by kernel_rfl, rfl, by decide⟩
instance : TZero Try.prog 187 [.int .u64 0] := ⟨.int .u64 0, by kernel_rfl, rfl⟩
instance : TRow Try.prog 188 3 := ⟨⟨_, Try.underlying188, rfl⟩, by kernel_rfl⟩
instance : TFld Try.prog 188 0 0 := ⟨_, _, 0, Try.underlying188, rfl, rfl, by kernel_rfl⟩
instance : TFld Try.prog 188 1 1 := ⟨_, _, 0, Try.underlying188, rfl, rfl, by kernel_rfl⟩
instance : TFld Try.prog 188 2 2 := ⟨_, _, 0, Try.underlying188, rfl, rfl, by kernel_rfl⟩
instance : TEl Try.prog 188 3 24 (.agg #[.pointer none, .pointer none, .int .u64 0]) := ⟨by kernel_rfl, rfl, by decide⟩
instance : TZero Try.prog 188 [.pointer none, .pointer none, .int .u64 0] := ⟨.agg #[.pointer none, .pointer none, .int .u64 0], by kernel_rfl, rfl⟩
instance : TRow Try.prog 189 3 := ⟨⟨_, Try.underlying189, rfl⟩, by kernel_rfl⟩
instance : TFld Try.prog 189 0 0 := ⟨_, _, 0, Try.underlying189, rfl, rfl, by kernel_rfl⟩
instance : TFld Try.prog 189 1 1 := ⟨_, _, 0, Try.underlying189, rfl, rfl, by kernel_rfl⟩
instance : TFld Try.prog 189 2 2 := ⟨_, _, 0, Try.underlying189, rfl, rfl, by kernel_rfl⟩
instance : TEl Try.prog 189 3 24 (.agg #[.pointer none, .pointer none, .int .u64 0]) := ⟨by kernel_rfl, rfl, by decide⟩
instance : TZero Try.prog 189 [.pointer none, .pointer none, .int .u64 0] := ⟨.agg #[.pointer none, .pointer none, .int .u64 0], by kernel_rfl, rfl⟩
instance : TRow Try.prog 194 2 := ⟨⟨_, Try.underlying194, rfl⟩, by kernel_rfl⟩
instance : TFld Try.prog 194 0 0 := ⟨_, _, 0, Try.underlying194, rfl, rfl, by kernel_rfl⟩
instance : TFld Try.prog 194 1 1 := ⟨_, _, 0, Try.underlying194, rfl, rfl, by kernel_rfl⟩
instance : TRow Try.prog 195 2 := ⟨⟨_, Try.underlying195, rfl⟩, by kernel_rfl⟩
instance : TFld Try.prog 195 0 0 := ⟨_, _, 0, Try.underlying195, rfl, rfl, by kernel_rfl⟩
instance : TFld Try.prog 195 1 1 := ⟨_, _, 0, Try.underlying195, rfl, rfl, by kernel_rfl⟩
instance : TOne Try.prog 205 := ⟨⟨_, Try.underlying205, rfl⟩, by kernel_rfl⟩
instance : TEl Try.prog 205 1 8 (.int .u64 0) := ⟨by kernel_rfl, rfl, by decide⟩
instance : TZero Try.prog 205 [.int .u64 0] := ⟨.int .u64 0, by kernel_rfl, rfl⟩
instance : TRow Try.prog 207 1 := ⟨⟨_, Try.underlying207, rfl⟩, by kernel_rfl⟩
instance : TFld Try.prog 207 0 0 := ⟨_, _, 0, Try.underlying207, rfl, rfl, by kernel_rfl⟩
instance : TEl Try.prog 207 1 8 (.agg #[.pointer none]) := ⟨by kernel_rfl, rfl, by decide⟩
instance : TZero Try.prog 207 [.pointer none] := ⟨.agg #[.pointer none], by kernel_rfl, rfl⟩
instance : TRow Try.prog 208 1 := ⟨⟨_, Try.underlying208, rfl⟩, by kernel_rfl⟩
instance : TFld Try.prog 208 0 0 := ⟨_, _, 0, Try.underlying208, rfl, rfl, by kernel_rfl⟩
instance : TEl Try.prog 208 1 8 (.agg #[.pointer none]) := ⟨by kernel_rfl, rfl, by decide⟩
instance : TZero Try.prog 208 [.pointer none] := ⟨.agg #[.pointer none], by kernel_rfl, rfl⟩
instance : TOne Try.prog 209 := ⟨⟨_, Try.underlying209, rfl⟩, by kernel_rfl⟩
instance : TPtr Try.prog 209 := ⟨⟨_, Try.underlying209⟩⟩
instance : TEl Try.prog 209 1 8 (.pointer none) := ⟨by kernel_rfl, rfl, by decide⟩
instance : TZero Try.prog 209 [.pointer none] := ⟨.pointer none, by kernel_rfl, rfl⟩
instance : TRow Try.prog 221 3 := ⟨⟨_, Try.underlying221, rfl⟩, by kernel_rfl⟩
instance : TFld Try.prog 221 0 0 := ⟨_, _, 0, Try.underlying221, rfl, rfl, by kernel_rfl⟩
instance : TFld Try.prog 221 1 1 := ⟨_, _, 0, Try.underlying221, rfl, rfl, by kernel_rfl⟩
instance : TFld Try.prog 221 2 2 := ⟨_, _, 0, Try.underlying221, rfl, rfl, by kernel_rfl⟩
instance : TEq Try.prog 221 [0, 0, 0] := ⟨by kernel_rfl, by kernel_rfl, _, Try.underlying221⟩
instance : TEl Try.prog 221 3 24 (.agg #[.int .i64 0, .int .i64 0, .int .i64 0]) := ⟨by kernel_rfl, rfl, by decide⟩
instance : TZero Try.prog 221 [.int .i64 0, .int .i64 0, .int .i64 0] := ⟨.agg #[.int .i64 0, .int .i64 0, .int .i64 0], by kernel_rfl, rfl⟩
instance : TRow Try.prog 224 4 := ⟨⟨_, Try.underlying224, rfl⟩, by kernel_rfl⟩
instance : TFld Try.prog 224 0 0 := ⟨_, _, 0, Try.underlying224, rfl, rfl, by kernel_rfl⟩
instance : TFld Try.prog 224 1 1 := ⟨_, _, 0, Try.underlying224, rfl, rfl, by kernel_rfl⟩
instance : TFld Try.prog 224 2 2 := ⟨_, _, 0, Try.underlying224, rfl, rfl, by kernel_rfl⟩
instance : TFld Try.prog 224 3 3 := ⟨_, _, 0, Try.underlying224, rfl, rfl, by kernel_rfl⟩
instance : TEl Try.prog 224 4 40 (.agg #[.pointer none, .pointer none, .pointer none, .string ⟨#[]⟩]) := ⟨by kernel_rfl, rfl, by decide⟩
instance : TZero Try.prog 224 [.pointer none, .pointer none, .pointer none, .string ⟨#[]⟩] := ⟨.agg #[.pointer none, .pointer none, .pointer none, .string ⟨#[]⟩], by kernel_rfl, rfl⟩
instance : TRow Try.prog 225 4 := ⟨⟨_, Try.underlying225, rfl⟩, by kernel_rfl⟩
instance : TFld Try.prog 225 0 0 := ⟨_, _, 0, Try.underlying225, rfl, rfl, by kernel_rfl⟩
instance : TFld Try.prog 225 1 1 := ⟨_, _, 0, Try.underlying225, rfl, rfl, by kernel_rfl⟩
instance : TFld Try.prog 225 2 2 := ⟨_, _, 0, Try.underlying225, rfl, rfl, by kernel_rfl⟩
instance : TFld Try.prog 225 3 3 := ⟨_, _, 0, Try.underlying225, rfl, rfl, by kernel_rfl⟩
instance : TEl Try.prog 225 4 40 (.agg #[.pointer none, .pointer none, .pointer none, .string ⟨#[]⟩]) := ⟨by kernel_rfl, rfl, by decide⟩
instance : TZero Try.prog 225 [.pointer none, .pointer none, .pointer none, .string ⟨#[]⟩] := ⟨.agg #[.pointer none, .pointer none, .pointer none, .string ⟨#[]⟩], by kernel_rfl, rfl⟩
instance : TOne Try.prog 229 := ⟨⟨_, Try.underlying229, rfl⟩, by kernel_rfl⟩
instance : TEl Try.prog 229 1 4 (.int .u32 0) := ⟨by kernel_rfl, rfl, by decide⟩
instance : TZero Try.prog 229 [.int .u32 0] := ⟨.int .u32 0, by kernel_rfl, rfl⟩
instance : TOne Try.prog 230 := ⟨⟨_, Try.underlying230, rfl⟩, by kernel_rfl⟩
instance : TEl Try.prog 230 1 1 (.int .u8 0) := ⟨by kernel_rfl, rfl, by decide⟩
instance : TZero Try.prog 230 [.int .u8 0] := ⟨.int .u8 0, by kernel_rfl, rfl⟩
instance : TOne Try.prog 231 := ⟨⟨_, Try.underlying231, rfl⟩, by kernel_rfl⟩
instance : TEl Try.prog 231 1 1 (.int .u8 0) := ⟨by kernel_rfl, rfl, by decide⟩
instance : TZero Try.prog 231 [.int .u8 0] := ⟨.int .u8 0, by kernel_rfl, rfl⟩
instance : TOne Try.prog 233 := ⟨⟨_, Try.underlying233, rfl⟩, by kernel_rfl⟩
instance : TPtr Try.prog 233 := ⟨⟨_, Try.underlying233⟩⟩
instance : TEl Try.prog 233 1 8 (.pointer none) := ⟨by kernel_rfl, rfl, by decide⟩
instance : TZero Try.prog 233 [.pointer none] := ⟨.pointer none, by kernel_rfl, rfl⟩
instance : TOne Try.prog 234 := ⟨⟨_, Try.underlying234, rfl⟩, by kernel_rfl⟩
instance : TEl Try.prog 234 1 4 (.int .i32 0) := ⟨by kernel_rfl, rfl, by decide⟩
instance : TZero Try.prog 234 [.int .i32 0] := ⟨.int .i32 0, by kernel_rfl, rfl⟩
instance : TOne Try.prog 235 := ⟨⟨_, Try.underlying235, rfl⟩, by kernel_rfl⟩
instance : TEl Try.prog 235 1 4 (.int .i32 0) := ⟨by kernel_rfl, rfl, by decide⟩
instance : TZero Try.prog 235 [.int .i32 0] := ⟨.int .i32 0, by kernel_rfl, rfl⟩
instance : TRow Try.prog 236 11 := ⟨⟨_, Try.underlying236, rfl⟩, by kernel_rfl⟩
instance : TFld Try.prog 236 0 0 := ⟨_, _, 0, Try.underlying236, rfl, rfl, by kernel_rfl⟩
instance : TFld Try.prog 236 1 1 := ⟨_, _, 0, Try.underlying236, rfl, rfl, by kernel_rfl⟩
instance : TFld Try.prog 236 2 2 := ⟨_, _, 0, Try.underlying236, rfl, rfl, by kernel_rfl⟩
instance : TFld Try.prog 236 3 3 := ⟨_, _, 0, Try.underlying236, rfl, rfl, by kernel_rfl⟩
instance : TFld Try.prog 236 4 4 := ⟨_, _, 0, Try.underlying236, rfl, rfl, by kernel_rfl⟩
instance : TFld Try.prog 236 5 5 := ⟨_, _, 0, Try.underlying236, rfl, rfl, by kernel_rfl⟩
instance : TFld Try.prog 236 6 6 := ⟨_, _, 0, Try.underlying236, rfl, rfl, by kernel_rfl⟩
instance : TFld Try.prog 236 7 7 := ⟨_, _, 0, Try.underlying236, rfl, rfl, by kernel_rfl⟩
instance : TFld Try.prog 236 8 8 := ⟨_, _, 0, Try.underlying236, rfl, rfl, by kernel_rfl⟩
instance : TFld Try.prog 236 9 9 := ⟨_, _, 0, Try.underlying236, rfl, rfl, by kernel_rfl⟩
instance : TFld Try.prog 236 10 10 := ⟨_, _, 0, Try.underlying236, rfl, rfl, by kernel_rfl⟩
instance : TRow Try.prog 237 11 := ⟨⟨_, Try.underlying237, rfl⟩, by kernel_rfl⟩
instance : TFld Try.prog 237 0 0 := ⟨_, _, 0, Try.underlying237, rfl, rfl, by kernel_rfl⟩
instance : TFld Try.prog 237 1 1 := ⟨_, _, 0, Try.underlying237, rfl, rfl, by kernel_rfl⟩
instance : TFld Try.prog 237 2 2 := ⟨_, _, 0, Try.underlying237, rfl, rfl, by kernel_rfl⟩
instance : TFld Try.prog 237 3 3 := ⟨_, _, 0, Try.underlying237, rfl, rfl, by kernel_rfl⟩
instance : TFld Try.prog 237 4 4 := ⟨_, _, 0, Try.underlying237, rfl, rfl, by kernel_rfl⟩
instance : TFld Try.prog 237 5 5 := ⟨_, _, 0, Try.underlying237, rfl, rfl, by kernel_rfl⟩
instance : TFld Try.prog 237 6 6 := ⟨_, _, 0, Try.underlying237, rfl, rfl, by kernel_rfl⟩
instance : TFld Try.prog 237 7 7 := ⟨_, _, 0, Try.underlying237, rfl, rfl, by kernel_rfl⟩
instance : TFld Try.prog 237 8 8 := ⟨_, _, 0, Try.underlying237, rfl, rfl, by kernel_rfl⟩
instance : TFld Try.prog 237 9 9 := ⟨_, _, 0, Try.underlying237, rfl, rfl, by kernel_rfl⟩
instance : TFld Try.prog 237 10 10 := ⟨_, _, 0, Try.underlying237, rfl, rfl, by kernel_rfl⟩
instance : TRow Try.prog 238 2 := ⟨⟨_, Try.underlying238, rfl⟩, by kernel_rfl⟩
instance : TFld Try.prog 238 0 0 := ⟨_, _, 0, Try.underlying238, rfl, rfl, by kernel_rfl⟩
instance : TFld Try.prog 238 1 1 := ⟨_, _, 0, Try.underlying238, rfl, rfl, by kernel_rfl⟩
instance : TEl Try.prog 238 2 24 (.agg #[.string ⟨#[]⟩, .int .u8 0]) := ⟨by kernel_rfl, rfl, by decide⟩
instance : TZero Try.prog 238 [.string ⟨#[]⟩, .int .u8 0] := ⟨.agg #[.string ⟨#[]⟩, .int .u8 0], by kernel_rfl, rfl⟩
instance : TRow Try.prog 239 2 := ⟨⟨_, Try.underlying239, rfl⟩, by kernel_rfl⟩
instance : TFld Try.prog 239 0 0 := ⟨_, _, 0, Try.underlying239, rfl, rfl, by kernel_rfl⟩
instance : TFld Try.prog 239 1 1 := ⟨_, _, 0, Try.underlying239, rfl, rfl, by kernel_rfl⟩
instance : TEl Try.prog 239 2 24 (.agg #[.string ⟨#[]⟩, .int .u8 0]) := ⟨by kernel_rfl, rfl, by decide⟩
instance : TZero Try.prog 239 [.string ⟨#[]⟩, .int .u8 0] := ⟨.agg #[.string ⟨#[]⟩, .int .u8 0], by kernel_rfl, rfl⟩
instance : TFun Try.prog 3 := ⟨_, Try.func3, by kernel_rfl, by kernel_rfl⟩
instance : TFun Try.prog 4 := ⟨_, Try.func4, by kernel_rfl, by kernel_rfl⟩
instance : TFun Try.prog 5 := ⟨_, Try.func5, by kernel_rfl, by kernel_rfl⟩
instance : TFun Try.prog 6 := ⟨_, Try.func6, by kernel_rfl, by kernel_rfl⟩
instance : TFun Try.prog 7 := ⟨_, Try.func7, by kernel_rfl, by kernel_rfl⟩
instance : TFun Try.prog 8 := ⟨_, Try.func8, by kernel_rfl, by kernel_rfl⟩
instance : TFun Try.prog 9 := ⟨_, Try.func9, by kernel_rfl, by kernel_rfl⟩
instance : TFun Try.prog 10 := ⟨_, Try.func10, by kernel_rfl, by kernel_rfl⟩
instance : TFun Try.prog 11 := ⟨_, Try.func11, by kernel_rfl, by kernel_rfl⟩
instance : TFun Try.prog 12 := ⟨_, Try.func12, by kernel_rfl, by kernel_rfl⟩
instance : TFun Try.prog 13 := ⟨_, Try.func13, by kernel_rfl, by kernel_rfl⟩
instance : TFun Try.prog 14 := ⟨_, Try.func14, by kernel_rfl, by kernel_rfl⟩
instance : TFun Try.prog 15 := ⟨_, Try.func15, by kernel_rfl, by kernel_rfl⟩
instance : TFun Try.prog 16 := ⟨_, Try.func16, by kernel_rfl, by kernel_rfl⟩
instance : TFun Try.prog 17 := ⟨_, Try.func17, by kernel_rfl, by kernel_rfl⟩
instance : TFun Try.prog 18 := ⟨_, Try.func18, by kernel_rfl, by kernel_rfl⟩
instance : TFun Try.prog 19 := ⟨_, Try.func19, by kernel_rfl, by kernel_rfl⟩
instance : TFun Try.prog 20 := ⟨_, Try.func20, by kernel_rfl, by kernel_rfl⟩
instance : TFun Try.prog 21 := ⟨_, Try.func21, by kernel_rfl, by kernel_rfl⟩
instance : TFun Try.prog 22 := ⟨_, Try.func22, by kernel_rfl, by kernel_rfl⟩
instance : TFun Try.prog 23 := ⟨_, Try.func23, by kernel_rfl, by kernel_rfl⟩
instance : TFun Try.prog 24 := ⟨_, Try.func24, by kernel_rfl, by kernel_rfl⟩
instance : TFun Try.prog 25 := ⟨_, Try.func25, by kernel_rfl, by kernel_rfl⟩
instance : TFun Try.prog 26 := ⟨_, Try.func26, by kernel_rfl, by kernel_rfl⟩
instance : TFun Try.prog 27 := ⟨_, Try.func27, by kernel_rfl, by kernel_rfl⟩
instance : TFun Try.prog 28 := ⟨_, Try.func28, by kernel_rfl, by kernel_rfl⟩
instance : TFun Try.prog 29 := ⟨_, Try.func29, by kernel_rfl, by kernel_rfl⟩
instance : TFun Try.prog 30 := ⟨_, Try.func30, by kernel_rfl, by kernel_rfl⟩
instance : TFun Try.prog 31 := ⟨_, Try.func31, by kernel_rfl, by kernel_rfl⟩
instance : TFun Try.prog 32 := ⟨_, Try.func32, by kernel_rfl, by kernel_rfl⟩
instance : TFun Try.prog 33 := ⟨_, Try.func33, by kernel_rfl, by kernel_rfl⟩
instance : TFun Try.prog 34 := ⟨_, Try.func34, by kernel_rfl, by kernel_rfl⟩
instance : TFun Try.prog 35 := ⟨_, Try.func35, by kernel_rfl, by kernel_rfl⟩
instance : TFun Try.prog 36 := ⟨_, Try.func36, by kernel_rfl, by kernel_rfl⟩
instance : TFun Try.prog 37 := ⟨_, Try.func37, by kernel_rfl, by kernel_rfl⟩
instance : TFun Try.prog 38 := ⟨_, Try.func38, by kernel_rfl, by kernel_rfl⟩
instance : TFun Try.prog 39 := ⟨_, Try.func39, by kernel_rfl, by kernel_rfl⟩
instance : TFun Try.prog 40 := ⟨_, Try.func40, by kernel_rfl, by kernel_rfl⟩
instance : TFun Try.prog 41 := ⟨_, Try.func41, by kernel_rfl, by kernel_rfl⟩
instance : TFun Try.prog 42 := ⟨_, Try.func42, by kernel_rfl, by kernel_rfl⟩
instance : TFun Try.prog 43 := ⟨_, Try.func43, by kernel_rfl, by kernel_rfl⟩
instance : TFun Try.prog 44 := ⟨_, Try.func44, by kernel_rfl, by kernel_rfl⟩
instance : TFun Try.prog 45 := ⟨_, Try.func45, by kernel_rfl, by kernel_rfl⟩
instance : TFun Try.prog 46 := ⟨_, Try.func46, by kernel_rfl, by kernel_rfl⟩
instance : TFun Try.prog 47 := ⟨_, Try.func47, by kernel_rfl, by kernel_rfl⟩
instance : TFun Try.prog 48 := ⟨_, Try.func48, by kernel_rfl, by kernel_rfl⟩
instance : TFun Try.prog 49 := ⟨_, Try.func49, by kernel_rfl, by kernel_rfl⟩
instance : TFun Try.prog 50 := ⟨_, Try.func50, by kernel_rfl, by kernel_rfl⟩
instance : TFun Try.prog 51 := ⟨_, Try.func51, by kernel_rfl, by kernel_rfl⟩
instance : TFun Try.prog 52 := ⟨_, Try.func52, by kernel_rfl, by kernel_rfl⟩
instance : TFun Try.prog 53 := ⟨_, Try.func53, by kernel_rfl, by kernel_rfl⟩
instance : TFun Try.prog 54 := ⟨_, Try.func54, by kernel_rfl, by kernel_rfl⟩
instance : TFun Try.prog 55 := ⟨_, Try.func55, by kernel_rfl, by kernel_rfl⟩
instance : TFun Try.prog 56 := ⟨_, Try.func56, by kernel_rfl, by kernel_rfl⟩
instance : TFun Try.prog 57 := ⟨_, Try.func57, by kernel_rfl, by kernel_rfl⟩
instance : TFun Try.prog 58 := ⟨_, Try.func58, by kernel_rfl, by kernel_rfl⟩
instance : TFun Try.prog 59 := ⟨_, Try.func59, by kernel_rfl, by kernel_rfl⟩
instance : TFun Try.prog 60 := ⟨_, Try.func60, by kernel_rfl, by kernel_rfl⟩
instance : TFun Try.prog 61 := ⟨_, Try.func61, by kernel_rfl, by kernel_rfl⟩
instance : TFun Try.prog 62 := ⟨_, Try.func62, by kernel_rfl, by kernel_rfl⟩
instance : TFun Try.prog 63 := ⟨_, Try.func63, by kernel_rfl, by kernel_rfl⟩
instance : TFun Try.prog 64 := ⟨_, Try.func64, by kernel_rfl, by kernel_rfl⟩
instance : TFun Try.prog 65 := ⟨_, Try.func65, by kernel_rfl, by kernel_rfl⟩
instance : TFun Try.prog 66 := ⟨_, Try.func66, by kernel_rfl, by kernel_rfl⟩
instance : TFun Try.prog 67 := ⟨_, Try.func67, by kernel_rfl, by kernel_rfl⟩
instance : TFun Try.prog 68 := ⟨_, Try.func68, by kernel_rfl, by kernel_rfl⟩
instance : TFun Try.prog 69 := ⟨_, Try.func69, by kernel_rfl, by kernel_rfl⟩
instance : TFun Try.prog 70 := ⟨_, Try.func70, by kernel_rfl, by kernel_rfl⟩
instance : TFun Try.prog 71 := ⟨_, Try.func71, by kernel_rfl, by kernel_rfl⟩
instance : TFun Try.prog 72 := ⟨_, Try.func72, by kernel_rfl, by kernel_rfl⟩
instance : TFun Try.prog 73 := ⟨_, Try.func73, by kernel_rfl, by kernel_rfl⟩
instance : TFun Try.prog 74 := ⟨_, Try.func74, by kernel_rfl, by kernel_rfl⟩
instance : TFun Try.prog 75 := ⟨_, Try.func75, by kernel_rfl, by kernel_rfl⟩
instance : TFun Try.prog 76 := ⟨_, Try.func76, by kernel_rfl, by kernel_rfl⟩
instance : TFun Try.prog 77 := ⟨_, Try.func77, by kernel_rfl, by kernel_rfl⟩
instance : TFun Try.prog 78 := ⟨_, Try.func78, by kernel_rfl, by kernel_rfl⟩
instance : TFun Try.prog 79 := ⟨_, Try.func79, by kernel_rfl, by kernel_rfl⟩
instance : TFun Try.prog 80 := ⟨_, Try.func80, by kernel_rfl, by kernel_rfl⟩
instance : TFun Try.prog 81 := ⟨_, Try.func81, by kernel_rfl, by kernel_rfl⟩
instance : TFun Try.prog 82 := ⟨_, Try.func82, by kernel_rfl, by kernel_rfl⟩
instance : TFun Try.prog 83 := ⟨_, Try.func83, by kernel_rfl, by kernel_rfl⟩
instance : TFun Try.prog 84 := ⟨_, Try.func84, by kernel_rfl, by kernel_rfl⟩
instance : TFun Try.prog 85 := ⟨_, Try.func85, by kernel_rfl, by kernel_rfl⟩
instance : TFun Try.prog 86 := ⟨_, Try.func86, by kernel_rfl, by kernel_rfl⟩
instance : TFun Try.prog 87 := ⟨_, Try.func87, by kernel_rfl, by kernel_rfl⟩
instance : TFun Try.prog 88 := ⟨_, Try.func88, by kernel_rfl, by kernel_rfl⟩
instance : TFun Try.prog 89 := ⟨_, Try.func89, by kernel_rfl, by kernel_rfl⟩
instance : TFun Try.prog 90 := ⟨_, Try.func90, by kernel_rfl, by kernel_rfl⟩
instance : TFun Try.prog 91 := ⟨_, Try.func91, by kernel_rfl, by kernel_rfl⟩
instance : TFun Try.prog 92 := ⟨_, Try.func92, by kernel_rfl, by kernel_rfl⟩
instance : TFun Try.prog 93 := ⟨_, Try.func93, by kernel_rfl, by kernel_rfl⟩
instance : TFun Try.prog 94 := ⟨_, Try.func94, by kernel_rfl, by kernel_rfl⟩
instance : TFun Try.prog 95 := ⟨_, Try.func95, by kernel_rfl, by kernel_rfl⟩
instance : TFun Try.prog 96 := ⟨_, Try.func96, by kernel_rfl, by kernel_rfl⟩
instance : TFun Try.prog 97 := ⟨_, Try.func97, by kernel_rfl, by kernel_rfl⟩
instance : TFun Try.prog 98 := ⟨_, Try.func98, by kernel_rfl, by kernel_rfl⟩
instance : TFun Try.prog 99 := ⟨_, Try.func99, by kernel_rfl, by kernel_rfl⟩
instance : TFun Try.prog 100 := ⟨_, Try.func100, by kernel_rfl, by kernel_rfl⟩
instance : TFun Try.prog 101 := ⟨_, Try.func101, by kernel_rfl, by kernel_rfl⟩
instance : TFun Try.prog 102 := ⟨_, Try.func102, by kernel_rfl, by kernel_rfl⟩
instance : TFun Try.prog 103 := ⟨_, Try.func103, by kernel_rfl, by kernel_rfl⟩
instance : TFun Try.prog 104 := ⟨_, Try.func104, by kernel_rfl, by kernel_rfl⟩
instance : TFun Try.prog 105 := ⟨_, Try.func105, by kernel_rfl, by kernel_rfl⟩
instance : TFun Try.prog 106 := ⟨_, Try.func106, by kernel_rfl, by kernel_rfl⟩
instance : TFun Try.prog 107 := ⟨_, Try.func107, by kernel_rfl, by kernel_rfl⟩
instance : TFun Try.prog 108 := ⟨_, Try.func108, by kernel_rfl, by kernel_rfl⟩
instance : TFun Try.prog 109 := ⟨_, Try.func109, by kernel_rfl, by kernel_rfl⟩
instance : TFun Try.prog 110 := ⟨_, Try.func110, by kernel_rfl, by kernel_rfl⟩
instance : TFun Try.prog 111 := ⟨_, Try.func111, by kernel_rfl, by kernel_rfl⟩
instance : TFun Try.prog 112 := ⟨_, Try.func112, by kernel_rfl, by kernel_rfl⟩
instance : TFun Try.prog 113 := ⟨_, Try.func113, by kernel_rfl, by kernel_rfl⟩
instance : TFun Try.prog 114 := ⟨_, Try.func114, by kernel_rfl, by kernel_rfl⟩
instance : TFun Try.prog 115 := ⟨_, Try.func115, by kernel_rfl, by kernel_rfl⟩
instance : TFun Try.prog 116 := ⟨_, Try.func116, by kernel_rfl, by kernel_rfl⟩
instance : TFun Try.prog 117 := ⟨_, Try.func117, by kernel_rfl, by kernel_rfl⟩
instance : TFun Try.prog 118 := ⟨_, Try.func118, by kernel_rfl, by kernel_rfl⟩
instance : TFun Try.prog 119 := ⟨_, Try.func119, by kernel_rfl, by kernel_rfl⟩
instance : TFun Try.prog 120 := ⟨_, Try.func120, by kernel_rfl, by kernel_rfl⟩
instance : TFun Try.prog 121 := ⟨_, Try.func121, by kernel_rfl, by kernel_rfl⟩
instance : TFun Try.prog 122 := ⟨_, Try.func122, by kernel_rfl, by kernel_rfl⟩
instance : TFun Try.prog 123 := ⟨_, Try.func123, by kernel_rfl, by kernel_rfl⟩
instance : TFun Try.prog 124 := ⟨_, Try.func124, by kernel_rfl, by kernel_rfl⟩
instance : TFun Try.prog 125 := ⟨_, Try.func125, by kernel_rfl, by kernel_rfl⟩
instance : TFun Try.prog 126 := ⟨_, Try.func126, by kernel_rfl, by kernel_rfl⟩
instance : TFun Try.prog 127 := ⟨_, Try.func127, by kernel_rfl, by kernel_rfl⟩
instance : TFun Try.prog 129 := ⟨_, Try.func129, by kernel_rfl, by kernel_rfl⟩
instance : TFun Try.prog 130 := ⟨_, Try.func130, by kernel_rfl, by kernel_rfl⟩
instance : TFun Try.prog 131 := ⟨_, Try.func131, by kernel_rfl, by kernel_rfl⟩
instance : TFun Try.prog 132 := ⟨_, Try.func132, by kernel_rfl, by kernel_rfl⟩
instance : TFun Try.prog 133 := ⟨_, Try.func133, by kernel_rfl, by kernel_rfl⟩
instance : TFun Try.prog 134 := ⟨_, Try.func134, by kernel_rfl, by kernel_rfl⟩
instance : TFun Try.prog 135 := ⟨_, Try.func135, by kernel_rfl, by kernel_rfl⟩
instance : TFun Try.prog 136 := ⟨_, Try.func136, by kernel_rfl, by kernel_rfl⟩
instance : TFun Try.prog 137 := ⟨_, Try.func137, by kernel_rfl, by kernel_rfl⟩
instance : TFun Try.prog 138 := ⟨_, Try.func138, by kernel_rfl, by kernel_rfl⟩
instance : TFun Try.prog 139 := ⟨_, Try.func139, by kernel_rfl, by kernel_rfl⟩
instance : TFun Try.prog 140 := ⟨_, Try.func140, by kernel_rfl, by kernel_rfl⟩
instance : TFun Try.prog 141 := ⟨_, Try.func141, by kernel_rfl, by kernel_rfl⟩
instance : TFun Try.prog 142 := ⟨_, Try.func142, by kernel_rfl, by kernel_rfl⟩
instance : TFun Try.prog 147 := ⟨_, Try.func147, by kernel_rfl, by kernel_rfl⟩
instance : TFun Try.prog 148 := ⟨_, Try.func148, by kernel_rfl, by kernel_rfl⟩
instance : TFun Try.prog 149 := ⟨_, Try.func149, by kernel_rfl, by kernel_rfl⟩
instance : TFun Try.prog 150 := ⟨_, Try.func150, by kernel_rfl, by kernel_rfl⟩
instance : TFun Try.prog 151 := ⟨_, Try.func151, by kernel_rfl, by kernel_rfl⟩
instance : TFun Try.prog 152 := ⟨_, Try.func152, by kernel_rfl, by kernel_rfl⟩
instance : TFun Try.prog 153 := ⟨_, Try.func153, by kernel_rfl, by kernel_rfl⟩
instance : TFun Try.prog 154 := ⟨_, Try.func154, by kernel_rfl, by kernel_rfl⟩
instance : TFun Try.prog 155 := ⟨_, Try.func155, by kernel_rfl, by kernel_rfl⟩
instance : TFun Try.prog 156 := ⟨_, Try.func156, by kernel_rfl, by kernel_rfl⟩
instance : TFun Try.prog 157 := ⟨_, Try.func157, by kernel_rfl, by kernel_rfl⟩
instance : TFun Try.prog 158 := ⟨_, Try.func158, by kernel_rfl, by kernel_rfl⟩
instance : TFun Try.prog 159 := ⟨_, Try.func159, by kernel_rfl, by kernel_rfl⟩
instance : TFun Try.prog 171 := ⟨_, Try.func171, by kernel_rfl, by kernel_rfl⟩
instance : TFun Try.prog 172 := ⟨_, Try.func172, by kernel_rfl, by kernel_rfl⟩
instance : TFun Try.prog 173 := ⟨_, Try.func173, by kernel_rfl, by kernel_rfl⟩
instance : TFun Try.prog 174 := ⟨_, Try.func174, by kernel_rfl, by kernel_rfl⟩
instance : TFun Try.prog 175 := ⟨_, Try.func175, by kernel_rfl, by kernel_rfl⟩
instance : TFun Try.prog 176 := ⟨_, Try.func176, by kernel_rfl, by kernel_rfl⟩
instance : TFun Try.prog 177 := ⟨_, Try.func177, by kernel_rfl, by kernel_rfl⟩
instance : TFun Try.prog 178 := ⟨_, Try.func178, by kernel_rfl, by kernel_rfl⟩
instance : TFun Try.prog 179 := ⟨_, Try.func179, by kernel_rfl, by kernel_rfl⟩
instance : TFun Try.prog 181 := ⟨_, Try.func181, by kernel_rfl, by kernel_rfl⟩
instance : TFun Try.prog 182 := ⟨_, Try.func182, by kernel_rfl, by kernel_rfl⟩

end Go.Proofs.Ythffgbhphjkdeaa
namespace Go.Proofs.Ythffgbhphjkdeaa
open Go.RowKit

/-- Where a copy of an engine lies. -/
structure EngP where
  ta : Option Addr
  tc : Nat
  ka : Option Addr
  kc : Nat
  kb : Option Addr
  kd : Nat
  fa : Option Addr
  fc : Nat
  lo : Nat
  hi : Nat
def engL (x : Engine) (q : EngP) : List Value := [.slice q.ta x.tree.length q.tc, .slice q.ka x.kept.memos.length q.kc, .slice q.kb x.kept.asked.length q.kd, .slice q.fa x.frames.length q.fc, .int .i64 x.root, .int .i64 x.wide, .int .i64 x.high, .bool x.rtl]
def engRes (x : Engine) (q : EngP) : Res where
  foot := fun k => q.lo ≤ k ∧ k < q.hi
  says := fun w => EngineIn true (fun k => q.lo ≤ k ∧ k < q.hi) w (engL x q) x
  stable := fun S w w' h hm hs => h.mod hm hs
theorem toEngine_new (x : Engine) (o : Bool) (cs : List Value) (R : Nat → Prop) (w : World) (hf : x.fits 1048576) (h : EngineIn o R w cs x) :
    Calls Try.prog 10 #[.agg cs.toArray] w (NewR EngP (fun q => .agg (engL x q).toArray) (engRes x) w) :=
  (toEngine_any x o cs R w hf h).mono fun e w' ⟨cs', he, h1, hm⟩ => by
    obtain ⟨ta, tc, ka, kc, kb, kd, fa, fc, rfl, h1⟩ := h1.lit
    refine ⟨⟨ta, tc, ka, kc, kb, kd, fa, fc, w.heap.size, w'.heap.size⟩, he, ⟨h1.wide fun k hk hlo => ⟨hlo, hk⟩, fun k hk => hk⟩, hm⟩
theorem szEngine_less {x : Engine} {o : Bool} {cs : List Value} {R : Nat → Prop} {left : Int} {w : World} (h0 : 0 ≤ left) (h1 : left ≤ 1048576) (hf : x.fits 9223372036854775807) (hb : left < x.cost) (h : EngineIn o R w cs x) :
    Calls Try.prog 8 #[.agg cs.toArray, .int .i64 left] w fun e w' => e = .returned (.int .i64 (-1)) ∧ Mod (fun _ => False) w w' := by
  have := szEngine_any x o cs R left w h0 h1 hf h
  rwa [szRes_less hb] at this
theorem szEngine_more {x : Engine} {o : Bool} {cs : List Value} {R : Nat → Prop} {left : Int} {w : World} (h0 : 0 ≤ left) (h1 : left ≤ 1048576) (hf : x.fits 9223372036854775807) (hb : (x.cost : Int) ≤ left) (h : EngineIn o R w cs x) :
    Calls Try.prog 8 #[.agg cs.toArray, .int .i64 left] w fun e w' => e = .returned (.int .i64 (left - x.cost)) ∧ Mod (fun _ => False) w w' := by
  have := szEngine_any x o cs R left w h0 h1 hf h
  rwa [szRes_more hb] at this
end Go.Proofs.Ythffgbhphjkdeaa
namespace Go.Proofs.Ythffgbhphjkdeaa
open Go.RowKit

theorem keepB_far {P S : Nat → Prop} {W w w' : World} (h : KeepB P W w) (hm : Mod S w w') (hs : ∀ k, k < W.heap.size → ¬ S k) (hz : W.heap.size ≤ w.heap.size) : KeepB P W w' := fun g e N hf => by
  have hg := hf.size
  have e1 := hm.block g (by omega) (hs g hg)
  exact ⟨(h g e N hf).1.mod hm (hs g hg), fun hp => e1.trans ((h g e N hf).2 hp)⟩
/-- What marks keep: blocks that may be written stay so; those of no type in P are as they were. -/
def markRg (W : World) (R : Nat → Prop) (P : Nat → Prop) : Rg W where
  p := fun k => R k ∧ k < W.heap.size
  q := fun _ => False
  J := fun w => W.heap.size ≤ w.heap.size ∧ KeepB P W w
  low := fun _ h => h.2
  sub := fun _ h => h.elim
  keep := fun _ _ _ ⟨hz, h1⟩ hm hs => ⟨Nat.le_trans hz hm.size, keepB_far h1 hm (fun k hk h => (hs k hk h).elim) hz⟩
theorem modlow {R : Nat → Prop} {W w w' : World} (h : Mod (fun k => R k ∧ k < W.heap.size) w w') : Mod R w w' := h.mono fun _ _ h => h.1
theorem Wr.low {e sz : Nat} {R : Nat → Prop} {w : World} {a : Option Addr} {n : Nat} (h : Wr e sz R w a n) : Wr e sz (fun k => R k ∧ k < w.heap.size) w a n := h.weaken fun b hb h => ⟨h, hb⟩

abbrev NoT (_ : Nat) : Prop := False
theorem KeepB.low {R : Nat → Prop} {P : Nat → Prop} {W w : World} (h : (markRg W R P).J w) : KeepB P W w := h.2

end Go.Proofs.Ythffgbhphjkdeaa
namespace Go.Proofs.Ythffgbhphjkdeaa
open Go.RowKit
set_option linter.unusedVariables false
set_option linter.unusedSimpArgs false

theorem markIntS_wr (n c : Nat) (a : Option Addr) (R : Nat → Prop) (w : World) (q0 : Int) (hq0 : 1 ≤ q0) (hq1 : q0 ≤ 1000000000000000) (hn : n ≤ 1048576) (h : Wr 3 1 R w a n) :
    Calls Try.prog 137 #[.slice a n c, .int .i64 q0] w fun e w' => e = .returned (.int .i64 (q0 + n)) ∧ Mod R w w' ∧ KeepB (fun t => t = 3) w w' :=
  mark_wr h fun g N hh => markIntS_any n c a g N w q0 hq0 hq1 (by omega) (by simpa using hh)
theorem markRuleS_wr (n c : Nat) (a : Option Addr) (R : Nat → Prop) (w : World) (q0 : Int) (hq0 : 0 ≤ q0) (hq1 : q0 ≤ 1000000000000000) (hn : n ≤ 1048576) (h : Wr 152 3 R w a n) :
    Calls Try.prog 138 #[.slice a n c, .int .i64 q0] w fun e w' => e = .returned (.int .i64 (q0 + n * 3)) ∧ Mod R w w' ∧ KeepB (fun t => t = 152) w w' :=
  mark_wr h fun g N hh => markRuleS_any n c a g N w q0 hq0 hq1 hn hh
/-- The slices in a slice of nodes may be written. -/
def NodeSh (R : Nat → Prop) (g n : Nat) (w : World) : Prop := ∀ i, i < n → (∃ a m c, w.cell? ⟨g, i * 64 + 1, none⟩ = some (.slice a m c) ∧ m ≤ 1048576 ∧ Wr 3 1 R w a m) ∧ ∃ a m c, w.cell? ⟨g, i * 64 + 63, none⟩ = some (.slice a m c) ∧ m ≤ 1048576 ∧ Wr 152 3 R w a m
def NodeWr (R : Nat → Prop) (w : World) (a : Option Addr) (n : Nat) : Prop :=
  n = 0 ∨ ∃ g N, a = some ⟨g, 0, none⟩ ∧ R g ∧ n * 64 ≤ N ∧ Filled g 86 N w [] ∧ NodeSh R g n w
theorem NodeWr.keep {P R : Nat → Prop} {a : Option Addr} {n : Nat} {w w' : World} (h : NodeWr R w a n) (hk : KeepB P w w') (hp : ¬ P 86) : NodeWr R w' a n := by
  rcases h with h | ⟨g, N, h1, h2, h3, h4, h5⟩
  · exact .inl h
  · refine .inr ⟨g, N, h1, h2, h3, (hk g _ N h4).1, fun i hi => ?_⟩
    obtain ⟨⟨a, m, c, q1, q2, q3⟩, ⟨a', m', c', q4, q5, q6⟩⟩ := h5 i hi
    exact ⟨⟨a, m, c, (World.cell?_of_block (a := ⟨g, i * 64 + 1, none⟩) ((hk g _ N h4).2 hp)).trans q1, q2, q3.keep hk⟩, a', m', c', (World.cell?_of_block (a := ⟨g, i * 64 + 63, none⟩) ((hk g _ N h4).2 hp)).trans q4, q5, q6.keep hk⟩
theorem NodeSlice.wr {R : Nat → Prop} {g N : Nat} {w : World} {l : List Node} (h : NodeSlice true R w (some ⟨g, 0, none⟩) l) (hf : Filled g 86 N w []) (hN : l.length * 64 ≤ N) (hm : ∀ x ∈ l, x.fits 1048576) (hR : R g) : NodeWr R w (some ⟨g, 0, none⟩) l.length := by
  refine .inr ⟨g, N, rfl, hR, hN, hf, fun i hi => ?_⟩
  obtain ⟨b, o, x, r, e, hb, hbw, hx, ⟨k, c, t, c', rfl, _, _, h3⟩, hl, hc⟩ := h.get hi
  simp only [Option.some.injEq, Addr.mk.injEq, and_true] at e
  obtain ⟨rfl, rfl⟩ := e
  have h1 := hc 1 _ (nodeRow_1 _ _ _ _ _ _ _ _ _)
  have h63 := hc 63 _ (nodeRow_63 _ _ _ _ _ _ _ _ _)
  rw [Nat.zero_add] at h1 h63
  have hf := hm x (List.mem_of_getElem? hx.out)
  unfold Node.fits at hf
  exact ⟨⟨_, _, _, h1, hf.1, (h3 rfl).1⟩, _, _, _, h63, hf.2, (h3 rfl).2⟩

/-- What marks of nodes keep. -/
def NodeJ (W : World) (g N n : Nat) (w : World) : Prop :=
  KeepB (fun t => t = 86 ∨ t = 3 ∨ t = 152) W w ∧ Filled g 86 N w [] ∧ ∀ i, i < n → w.cell? ⟨g, i * 64 + 1, none⟩ = W.cell? ⟨g, i * 64 + 1, none⟩ ∧ w.cell? ⟨g, i * 64 + 63, none⟩ = W.cell? ⟨g, i * 64 + 63, none⟩
def nodeRg (W : World) (R : Nat → Prop) (g N n : Nat) (hg : g < W.heap.size) : Rg W where
  p := fun k => R k ∧ k < W.heap.size
  q := fun _ => False
  J := fun w => W.heap.size ≤ w.heap.size ∧ NodeJ W g N n w
  low := fun _ h => h.2
  sub := fun _ h => h.elim
  keep := fun S w w' ⟨hz, h1, h2, h3⟩ hm hs => by
    have hgw : g < w.heap.size := by omega
    refine ⟨Nat.le_trans hz hm.size, keepB_far h1 hm (fun k hk h => (hs k hk h).elim) hz, h2.mod hm (fun h => (hs g hg h).elim), fun i hi => ?_⟩
    rw [hm.cell (a := ⟨g, i * 64 + 1, none⟩) hgw (fun h => (hs g hg h).elim), hm.cell (a := ⟨g, i * 64 + 63, none⟩) hgw (fun h => (hs g hg h).elim)]
    exact h3 i hi
theorem NodeJ.set {W w : World} {g N n : Nat} (h : NodeJ W g N n w) (hF : Filled g 86 N W []) {o : Nat} (ho : o < N) (h1 : o % 64 ≠ 1) (h63 : o % 64 ≠ 63) (v : Value) :
    (∃ u, w.cell? ⟨g, o, none⟩ = some u) ∧ w.frozen? ⟨g, o, none⟩ = false ∧ NodeJ W g N n (w.setCell ⟨g, o, none⟩ v) := by
  refine ⟨h.2.1.cell ho, h.2.1.free o, h.1.set hF (.inl rfl) _ _ _, h.2.1.set _ _ _ _, fun i hi => ?_⟩
  have e1 : (⟨g, o, none⟩ : Addr) ≠ ⟨g, i * 64 + 1, none⟩ := by
    intro e; simp only [Addr.mk.injEq, true_and, and_true] at e; omega
  have e2 : (⟨g, o, none⟩ : Addr) ≠ ⟨g, i * 64 + 63, none⟩ := by
    intro e; simp only [Addr.mk.injEq, true_and, and_true] at e; omega
  rw [World.cell?_setCell_other w _ _ _ e1, World.cell?_setCell_other w _ _ _ e2]
  exact h.2.2 i hi

set_option maxRecDepth 100000 in
set_option maxHeartbeats 8000000 in
theorem markNodeS_any (n c : Nat) (a : Option Addr) (R : Nat → Prop) (w : World) (q0 : Int) (hq0 : 1 ≤ q0) (hq1 : q0 ≤ 100000000000000) (hn : n ≤ 1048576) (h : NodeWr R w a n) :
    Calls Try.prog 108 #[.slice a n c, .int .i64 q0] w fun e w' => ∃ q : Int, e = .returned (.int .i64 q) ∧ q0 ≤ q ∧ q ≤ q0 + n * 6000000 ∧ Mod R w w' ∧ KeepB (fun t => t = 86 ∨ t = 3 ∨ t = 152) w w' := by
  by_cases h0 : n = 0
  · subst h0
    refine calls_sx Try.func108 rfl rfl (fun a h1 h2 h3 => ((Fr.nil h1 h2).arg (h3 1 _ rfl)).arg (h3 0 _ rfl)) ?_
    repeat (first | refine SX.seq ?_ | refine SXl.nil ?_ | refine SX.region ?_ | refine SQ.thenNormal ?_ | refine SX.block ?_ | (refine l_assign ?_; (refine SXl.v (OpW.assign rfl) rfl ?_ ?_ ?_); rfl; rfl))
    refine SX.loopi (fun k : Nat => k = 0) (fun _ => 0) (fun _ => []) (fun _ => []) (fun _ => []) (fun k => [(0, .slice a 0 c), (1, .int .i64 q0), (5, .int .i64 k)]) 0 rfl ?_ (fun _ hl => hl) ?_
    · (repeat (first | exact subF_nil _ | (refine subF_cons rfl ?_) | (refine subF_consv rfl (by rfl) ?_)))
    · rintro k rfl
      repeat (first | refine SX.seq ?_ | refine SXl.nil ?_ | refine SX.region ?_ | refine SQ.thenNormal ?_ | refine SX.condF rfl ?_ | (refine l_move ?_; (refine SXl.v (OpW.move rfl) rfl ?_ ?_ ?_); rfl; rfl) | (refine l_assign ?_; (refine SXl.v (OpW.assign rfl) rfl ?_ ?_ ?_); rfl; rfl) | (refine l_len ?_; (refine SXl.v (OpW.len rfl) rfl ?_ ?_ ?_); rfl; rfl) | (refine l_lss ?_; (refine SXl.v (OpW.lssF rfl rfl (by omega)) rfl ?_ ?_ ?_); rfl; rfl) | refine SX.ret ?_ | refine SX.exit ?_ | refine SQ.thenExit ?_ | refine SQ.blockExit ?_)
      refine SQ.body1 rfl rfl (fun w' hl => ⟨q0, rfl, by omega, by omega, hl.mod.mono (fun _ _ f => f.elim), KeepB.none hl.mod⟩)
  · obtain ⟨g, N, rfl, hR, hN, hF, hS⟩ := h.resolve_left h0
    have hg := hF.size
    refine calls_sxJ (nodeRg w R g N n hg) ⟨Nat.le_refl _, KeepB.refl _ _, hF, fun _ _ => ⟨rfl, rfl⟩⟩ Try.func108 rfl rfl (fun a h1 h2 h3 => ((Fr.nil h1 h2).arg (h3 1 _ rfl)).arg (h3 0 _ rfl)) ?_
    repeat (first | refine SX.seq ?_ | refine SXl.nil ?_ | refine SX.region ?_ | refine SQ.thenNormal ?_ | refine SX.block ?_ | (refine l_assign ?_; (refine SXl.v (OpW.assign rfl) rfl ?_ ?_ ?_); rfl; rfl))
    refine SX.loop3 (fun (k : Nat) (q : Int) (_ : Unit) => k ≤ n ∧ q0 ≤ q ∧ q ≤ q0 + k * 6000000) (fun k _ _ => n - k) (fun _ _ _ => []) (fun _ _ _ => []) (fun _ _ _ => []) (fun k q _ => [(0, .slice (some ⟨g, 0, none⟩) n c), (1, .int .i64 q), (5, .int .i64 k)]) 0 q0 () ⟨Nat.zero_le _, by omega, by omega⟩ ?_ (fun _ hl => hl) ?_
    · (repeat (first | exact subF_nil _ | (refine subF_cons rfl ?_) | (refine subF_consv rfl (by rfl) ?_)))
    · rintro k q _ ⟨hk, hq2, hq3⟩
      by_cases hlt : k < n
      · obtain ⟨⟨a1, m1, c1, hc1, hm1, hw1⟩, ⟨a2, m2, c2, hc2, hm2, hw2⟩⟩ := hS k hlt
        have hw1' : Wr 3 1 (fun b => R b ∧ b < w.heap.size) w a1 m1 := hw1.weaken fun b hb h => ⟨h, hb⟩
        have hw2' : Wr 152 3 (fun b => R b ∧ b < w.heap.size) w a2 m2 := hw2.weaken fun b hb h => ⟨h, hb⟩
        have hkN : k * 64 + 64 ≤ N := by omega
        have hp : (nodeRg w R g N n hg).p g := ⟨hR, hg⟩
        have hq : ¬ (nodeRg w R g N n hg).q g := fun h => h
        have hJs : ∀ (o : Nat) (v : Value), o < N → o % 64 ≠ 1 → o % 64 ≠ 63 → ∀ w', (nodeRg w R g N n hg).J w' → (∃ u, w'.cell? ⟨g, o, none⟩ = some u) ∧ w'.frozen? ⟨g, o, none⟩ = false ∧ (nodeRg w R g N n hg).J (w'.setCell ⟨g, o, none⟩ v) := fun o v h1 h2 h3 w' hJ => by
          obtain ⟨q1, q2, q3⟩ := hJ.2.set hF h1 h2 h3 v
          exact ⟨q1, q2, by rw [World.size_setCell]; exact hJ.1, q3⟩
        have hJc : ∀ (p : Nat → Prop), (∀ t, p t → t = 3 ∨ t = 152) → ∀ w' w2, (nodeRg w R g N n hg).J w' → Mod (nodeRg w R g N n hg).p w' w2 → KeepB p w' w2 → (nodeRg w R g N n hg).J w2 := fun p hp w' w2 hJ hm hk => by
          have hgs := (hk g _ N hJ.2.2.1).2 (fun h => by rcases hp _ h with h | h <;> exact absurd h (by decide))
          refine ⟨Nat.le_trans hJ.1 hm.size, hJ.2.1.trans (hk.mono fun t ht => .inr (hp t ht)), (hk g _ N hJ.2.2.1).1, fun i hi => ?_⟩
          rw [World.cell?_of_block (a := ⟨g, i * 64 + 1, none⟩) hgs, World.cell?_of_block (a := ⟨g, i * 64 + 63, none⟩) hgs]
          exact hJ.2.2.2 i hi
        repeat (first | refine SX.seq ?_ | refine SXl.nil ?_ | refine SX.region ?_ | refine SQ.thenNormal ?_ | refine SX.block ?_ | refine SX.skip ?_ | refine SX.condT rfl ?_ | (refine l_load ?_; (refine SXl.v (OpW.loadJ rfl (fun w' hJ => ((congrArg (fun o => w'.cell? ⟨g, o, none⟩) (by omega)).trans (hJ.2.2.2 k hlt).1).trans hc1)) rfl ?_ ?_ ?_); rfl; rfl) | (refine l_fieldAddr ?_; (refine SXl.v (OpW.fieldAddr rfl) rfl ?_ ?_ ?_); rfl; rfl) | (refine l_move ?_; (refine SXl.v (OpW.move rfl) rfl ?_ ?_ ?_); rfl; rfl) | (refine l_assign ?_; (refine SXl.v (OpW.assign rfl) rfl ?_ ?_ ?_); rfl; rfl) | (refine l_len ?_; (refine SXl.v (OpW.len rfl) rfl ?_ ?_ ?_); rfl; rfl) | (refine l_add ?_; (refine SXl.v (OpW.addi rfl rfl (by omega) (by omega)) rfl ?_ ?_ ?_); rfl; rfl) | (refine l_lss ?_; (refine SXl.v (OpW.lssT rfl rfl (by omega)) rfl ?_ ?_ ?_); rfl; rfl) | (refine l_indexAddr ?_; (refine SXl.v (OpW.indexAddr (by omega) rfl rfl) rfl ?_ ?_ ?_); rfl; rfl) | (refine l_store ?_; refine SXl.storeJ hp hq rfl rfl rfl rfl (hJs _ _ (by omega) (by omega) (by omega)) ?_))
        refine l_call ?_
        refine SXl.callJ1 (fun _ h => h) rfl rfl rfl (fun w' hl => (markIntS_wr m1 c1 a1 _ w' _ (by omega) (by omega) hm1 (hw1'.keep hl.inv.2.1)).mono fun e w2 ⟨he, hm, hk⟩ => ⟨he, hm, hJc _ (fun t h => .inl h) w' w2 hl.inv hm hk⟩) ?_
        repeat (first | refine SX.seq ?_ | refine SXl.nil ?_ | refine SX.region ?_ | refine SQ.thenNormal ?_ | (refine l_load ?_; (refine SXl.v (OpW.loadJ rfl (fun w' hJ => ((congrArg (fun o => w'.cell? ⟨g, o, none⟩) (by omega)).trans (hJ.2.2.2 k hlt).2).trans hc2)) rfl ?_ ?_ ?_); rfl; rfl) | (refine l_fieldAddr ?_; (refine SXl.v (OpW.fieldAddr rfl) rfl ?_ ?_ ?_); rfl; rfl) | (refine l_move ?_; (refine SXl.v (OpW.move rfl) rfl ?_ ?_ ?_); rfl; rfl) | (refine l_assign ?_; (refine SXl.v (OpW.assign rfl) rfl ?_ ?_ ?_); rfl; rfl) | (refine l_add ?_; (refine SXl.v (OpW.addi rfl rfl (by omega) (by omega)) rfl ?_ ?_ ?_); rfl; rfl) | (refine l_eql ?_; (refine SXl.v (OpW.eql rfl rfl) rfl ?_ ?_ ?_); rfl; rfl) | (refine l_rem ?_; (refine SXl.v (OpW.rem (by omega) rfl rfl) rfl ?_ ?_ ?_); rfl; rfl) | (refine l_indexAddr ?_; (refine SXl.v (OpW.indexAddr (by omega) rfl rfl) rfl ?_ ?_ ?_); rfl; rfl) | (refine l_store ?_; refine SXl.storeJ hp hq rfl rfl rfl rfl (hJs _ _ (by omega) (by omega) (by omega)) ?_))
        refine l_call ?_
        refine SXl.callJ1 (fun _ h => h) rfl rfl rfl (fun w' hl => (markRuleS_wr m2 c2 a2 _ w' _ (by omega) (by omega) hm2 (hw2'.keep hl.inv.2.1)).mono fun e w2 ⟨he, hm, hk⟩ => ⟨he, hm, hJc _ (fun t h => .inr h) w' w2 hl.inv hm hk⟩) ?_
        repeat (first | refine SXl.nil ?_ | refine SX.region ?_ | refine SQ.thenNormal ?_ | (refine l_move ?_; (refine SXl.v (OpW.move rfl) rfl ?_ ?_ ?_); rfl; rfl) | (refine l_assign ?_; (refine SXl.v (OpW.assign rfl) rfl ?_ ?_ ?_); rfl; rfl) | (refine l_add ?_; (refine SXl.v (OpW.succ rfl rfl (by omega)) rfl ?_ ?_ ?_); rfl; rfl) | refine SQ.blockNormal ?_)
        refine SQ.round3 (k + 1) ?jq () ⟨by omega, ?ha, ?hb⟩ (by omega) ?hs (fun w hl => hl)
        case hs => (repeat (first | exact subF_nil _ | (refine subF_cons rfl ?_) | (refine subF_consv rfl (by rfl) ?_)))
        case ha => omega
        case hb => omega
      · repeat (first | refine SX.seq ?_ | refine SXl.nil ?_ | refine SX.region ?_ | refine SQ.thenNormal ?_ | refine SX.condF rfl ?_ | (refine l_move ?_; (refine SXl.v (OpW.move rfl) rfl ?_ ?_ ?_); rfl; rfl) | (refine l_assign ?_; (refine SXl.v (OpW.assign rfl) rfl ?_ ?_ ?_); rfl; rfl) | (refine l_len ?_; (refine SXl.v (OpW.len rfl) rfl ?_ ?_ ?_); rfl; rfl) | (refine l_lss ?_; (refine SXl.v (OpW.lssF rfl rfl (by omega)) rfl ?_ ?_ ?_); rfl; rfl) | refine SX.ret ?_ | refine SX.exit ?_ | refine SQ.thenExit ?_ | refine SQ.blockExit ?_)
        refine SQ.body1 rfl rfl (fun w' hl => ?_)
        have hkn : k = n := by omega
        subst hkn
        exact ⟨q, rfl, by omega, by omega, hl.mod.mono (fun _ _ h => h.1), hl.inv.2.1⟩

abbrev NodeT (t : Nat) : Prop := t = 86 ∨ t = 3 ∨ t = 152
theorem NodeWr.low {R : Nat → Prop} {w : World} {a : Option Addr} {n : Nat} (h : NodeWr R w a n) : NodeWr (fun k => R k ∧ k < w.heap.size) w a n := by
  rcases h with h | ⟨g, N, h1, h2, h3, h4, h5⟩
  · exact .inl h
  · refine .inr ⟨g, N, h1, ⟨h2, h4.size⟩, h3, h4, fun i hi => ?_⟩
    obtain ⟨⟨a, m, c, q1, q2, q3⟩, ⟨a', m', c', q4, q5, q6⟩⟩ := h5 i hi
    exact ⟨⟨a, m, c, q1, q2, q3.weaken fun b hb h => ⟨h, hb⟩⟩, a', m', c', q4, q5, q6.weaken fun b hb h => ⟨h, hb⟩⟩
set_option maxRecDepth 100000 in
theorem markTree_any (n c : Nat) (a : Option Addr) (R : Nat → Prop) (w : World) (q0 : Int) (hq0 : 1 ≤ q0) (hq1 : q0 ≤ 100000000000000) (hn : n ≤ 1048576) (h : NodeWr R w a n) :
    Calls Try.prog 63 #[.agg #[.slice a n c], .int .i64 q0] w fun e w' => ∃ q : Int, e = .returned (.int .i64 q) ∧ q0 ≤ q ∧ q ≤ q0 + n * 6000000 ∧ Mod R w w' ∧ KeepB NodeT w w' := by
  refine calls_sxJ (markRg w R NoT) ⟨Nat.le_refl _, KeepB.refl _ _⟩ Try.func63 rfl rfl (fun a h1 h2 h3 => ((Fr.nil h1 h2).arg (h3 1 _ rfl)).arg (h3 0 _ rfl)) ?_
  repeat (first | refine SX.seq ?_ | refine SXl.nil ?_ | refine SX.region ?_ | refine SQ.thenNormal ?_ | (refine l_load ?_; (refine SXl.v (OpW.load 0 rfl rfl rfl) rfl ?_ ?_ ?_); rfl; rfl) | (refine l_fieldAddr ?_; (refine SXl.v (OpW.fieldAddr rfl) rfl ?_ ?_ ?_); rfl; rfl) | (refine l_move ?_; (refine SXl.v (OpW.move rfl) rfl ?_ ?_ ?_); rfl; rfl) | (refine l_assign ?_; (refine SXl.v (OpW.assign rfl) rfl ?_ ?_ ?_); rfl; rfl) | (refine l_box ?_; refine SXl.box ?_ ?_ rfl rfl (fun g => ?_); rfl; rfl))
  refine l_call ?_
  refine SXl.callJ2 (ξ := Int) (v := fun q => .int .i64 q) (markRg w R NodeT) (fun _ h => h) (fun _ h => h) rfl rfl rfl (fun q => q0 ≤ q ∧ q ≤ q0 + n * 6000000) (fun w' hl => (markNodeS_any n c a _ w' q0 hq0 hq1 hn (h.low.keep hl.inv.2 (fun f => f))).mono fun e w2 ⟨q, he, h1, h2, hm, hk⟩ => ⟨q, he, ⟨h1, h2⟩, hm, Nat.le_trans hl.inv.1 hm.size, (hl.inv.2.mono (fun _ f => f.elim)).trans hk⟩) ?_
  intro q ⟨h1, h2⟩
  repeat (first | refine SX.seq ?_ | refine SXl.nil ?_ | refine SX.region ?_ | refine SQ.thenNormal ?_ | (refine l_move ?_; (refine SXl.v (OpW.move rfl) rfl ?_ ?_ ?_); rfl; rfl) | (refine l_assign ?_; (refine SXl.v (OpW.assign rfl) rfl ?_ ?_ ?_); rfl; rfl) | refine SX.ret ?_)
  refine SQ.body1 rfl rfl (fun w' hl => ⟨q, rfl, h1, h2, modlow hl.mod, hl.inv.2⟩)
end Go.Proofs.Ythffgbhphjkdeaa
namespace Go.Proofs.Ythffgbhphjkdeaa
open Go.RowKit
set_option linter.unusedVariables false
set_option linter.unusedSimpArgs false

theorem markAskedS_wr (n c : Nat) (a : Option Addr) (R : Nat → Prop) (w : World) (q0 : Int) (hq0 : 0 ≤ q0) (hq1 : q0 ≤ 1000000000000000) (hn : n ≤ 1048576) (h : Wr 101 6 R w a n) :
    Calls Try.prog 15 #[.slice a n c, .int .i64 q0] w fun e w' => e = .returned (.int .i64 (q0 + n * 6)) ∧ Mod R w w' ∧ KeepB (fun t => t = 101) w w' :=
  mark_wr h fun g N hh => markAskedS_any n c a g N w q0 hq0 hq1 hn hh

abbrev KeptTy (t : Nat) : Prop := t = 178 ∨ t = 132 ∨ t = 101
theorem MemoWr.low {R : Nat → Prop} {w : World} {a : Option Addr} {n : Nat} (h : MemoWr R w a n) : MemoWr (fun k => R k ∧ k < w.heap.size) w a n := by
  rcases h with h | ⟨g, N, h1, h2, h3, h4, h5⟩
  · exact .inl h
  · refine .inr ⟨g, N, h1, ⟨h2, h4.size⟩, h3, h4, fun i hi => ?_⟩
    obtain ⟨a, m, c, q1, q2, q3⟩ := h5 i hi
    exact ⟨a, m, c, q1, q2, q3.weaken fun b hb h => ⟨h, hb⟩⟩
set_option maxRecDepth 100000 in
theorem markKept_any (n c n' c' : Nat) (a a' : Option Addr) (R : Nat → Prop) (w : World) (q0 : Int) (hq0 : 1 ≤ q0) (hq1 : q0 ≤ 20000000000000) (hn : n ≤ 1048576) (hn' : n' ≤ 1048576) (h : MemoWr R w a n) (h' : Wr 101 6 R w a' n') :
    Calls Try.prog 64 #[.agg #[.slice a n c, .slice a' n' c'], .int .i64 q0] w fun e w' => ∃ q : Int, e = .returned (.int .i64 q) ∧ q0 ≤ q ∧ q ≤ q0 + n * 6000000 + n' * 6 ∧ Mod R w w' ∧ KeepB KeptTy w w' := by
  refine calls_sxJ (markRg w R NoT) ⟨Nat.le_refl _, KeepB.refl _ _⟩ Try.func64 rfl rfl (fun a h1 h2 h3 => ((Fr.nil h1 h2).arg (h3 1 _ rfl)).arg (h3 0 _ rfl)) ?_
  repeat (first | refine SX.seq ?_ | refine SXl.nil ?_ | refine SX.region ?_ | refine SQ.thenNormal ?_ | refine SX.block ?_ | refine SX.skip ?_ | refine SX.condT rfl ?_ | refine SX.condF rfl ?_ | (refine l_load ?_; (first | refine SXl.v (OpW.load 0 rfl rfl rfl) rfl ?_ ?_ ?_ | refine SXl.v (OpW.load 1 rfl rfl rfl) rfl ?_ ?_ ?_ | refine SXl.v (OpW.load 2 rfl rfl rfl) rfl ?_ ?_ ?_ | refine SXl.v (OpW.load 3 rfl rfl rfl) rfl ?_ ?_ ?_ | refine SXl.v (OpW.loadOld rfl (by assumption) (fun h => h)) rfl ?_ ?_ ?_); rfl; rfl) | (refine l_fieldAddr ?_; (first | refine SXl.v (OpW.fieldAddr rfl) rfl ?_ ?_ ?_); rfl; rfl) | (refine l_move ?_; (first | refine SXl.v (OpW.move rfl) rfl ?_ ?_ ?_); rfl; rfl) | (refine l_assign ?_; (first | refine SXl.v (OpW.assign rfl) rfl ?_ ?_ ?_); rfl; rfl) | (refine l_box ?_; refine SXl.box ?_ ?_ rfl rfl (fun g => ?_); rfl; rfl) | refine SX.ret ?_ | refine SX.exit ?_ | refine SQ.thenRet ?_ | refine SQ.thenExit ?_ | refine SQ.blockNormal ?_ | refine SQ.blockRet ?_ | refine SQ.blockExit ?_ | refine SQ.blockOther rfl ?_)
  refine l_call ?_
  refine SXl.callJ2 (ξ := Int) (v := fun q => .int .i64 q) (markRg w R KeptTy) (fun _ h => h) (fun _ h => h) rfl rfl rfl (fun q => q0 ≤ q ∧ q ≤ q0 + n * 6000000) (fun w' hl => (markMemoS_any n c a _ w' q0 hq0 (by omega) hn (h.low.keep hl.inv.2 (fun f => f))).mono fun e w2 ⟨q, he, h1, h2, hm, hk⟩ => ⟨q, he, ⟨h1, h2⟩, hm, Nat.le_trans hl.inv.1 hm.size, (hl.inv.2.mono (fun _ f => f.elim)).trans (hk.mono fun _ h => h.imp id fun h => .inl h)⟩) ?_
  intro q ⟨h1, h2⟩
  repeat (first | refine SX.seq ?_ | refine SXl.nil ?_ | refine SX.region ?_ | refine SQ.thenNormal ?_ | refine SX.block ?_ | refine SX.skip ?_ | refine SX.condT rfl ?_ | refine SX.condF rfl ?_ | (refine l_load ?_; (first | refine SXl.v (OpW.load 0 rfl rfl rfl) rfl ?_ ?_ ?_ | refine SXl.v (OpW.load 1 rfl rfl rfl) rfl ?_ ?_ ?_ | refine SXl.v (OpW.load 2 rfl rfl rfl) rfl ?_ ?_ ?_ | refine SXl.v (OpW.load 3 rfl rfl rfl) rfl ?_ ?_ ?_ | refine SXl.v (OpW.loadOld rfl (by assumption) (fun h => h)) rfl ?_ ?_ ?_); rfl; rfl) | (refine l_fieldAddr ?_; (first | refine SXl.v (OpW.fieldAddr rfl) rfl ?_ ?_ ?_); rfl; rfl) | (refine l_move ?_; (first | refine SXl.v (OpW.move rfl) rfl ?_ ?_ ?_); rfl; rfl) | (refine l_assign ?_; (first | refine SXl.v (OpW.assign rfl) rfl ?_ ?_ ?_); rfl; rfl) | (refine l_box ?_; refine SXl.box ?_ ?_ rfl rfl (fun g => ?_); rfl; rfl) | refine SX.ret ?_ | refine SX.exit ?_ | refine SQ.thenRet ?_ | refine SQ.thenExit ?_ | refine SQ.blockNormal ?_ | refine SQ.blockRet ?_ | refine SQ.blockExit ?_ | refine SQ.blockOther rfl ?_)
  refine l_call ?_
  refine SXl.callJ1 (fun _ h => h) rfl rfl rfl (fun w' hl => (markAskedS_wr n' c' a' _ w' q (by omega) (by omega) hn' (h'.low.keep hl.inv.2)).mono fun e w2 ⟨he, hm, hk⟩ => ⟨he, hm, Nat.le_trans hl.inv.1 hm.size, hl.inv.2.trans (hk.mono fun _ h => .inr (.inr h))⟩) ?_
  repeat (first | refine SX.seq ?_ | refine SXl.nil ?_ | refine SX.region ?_ | refine SQ.thenNormal ?_ | refine SX.block ?_ | refine SX.skip ?_ | refine SX.condT rfl ?_ | refine SX.condF rfl ?_ | (refine l_load ?_; (first | refine SXl.v (OpW.load 0 rfl rfl rfl) rfl ?_ ?_ ?_ | refine SXl.v (OpW.load 1 rfl rfl rfl) rfl ?_ ?_ ?_ | refine SXl.v (OpW.load 2 rfl rfl rfl) rfl ?_ ?_ ?_ | refine SXl.v (OpW.load 3 rfl rfl rfl) rfl ?_ ?_ ?_ | refine SXl.v (OpW.loadOld rfl (by assumption) (fun h => h)) rfl ?_ ?_ ?_); rfl; rfl) | (refine l_fieldAddr ?_; (first | refine SXl.v (OpW.fieldAddr rfl) rfl ?_ ?_ ?_); rfl; rfl) | (refine l_move ?_; (first | refine SXl.v (OpW.move rfl) rfl ?_ ?_ ?_); rfl; rfl) | (refine l_assign ?_; (first | refine SXl.v (OpW.assign rfl) rfl ?_ ?_ ?_); rfl; rfl) | (refine l_box ?_; refine SXl.box ?_ ?_ rfl rfl (fun g => ?_); rfl; rfl) | refine SX.ret ?_ | refine SX.exit ?_ | refine SQ.thenRet ?_ | refine SQ.thenExit ?_ | refine SQ.blockNormal ?_ | refine SQ.blockRet ?_ | refine SQ.blockExit ?_ | refine SQ.blockOther rfl ?_)
  refine SQ.body1 rfl rfl (fun w' hl => ⟨_, rfl, by omega, by omega, modlow hl.mod, hl.inv.2⟩)

end Go.Proofs.Ythffgbhphjkdeaa
namespace Go.Proofs.Ythffgbhphjkdeaa
open Go.RowKit
set_option linter.unusedVariables false
set_option linter.unusedSimpArgs false

abbrev AllT (t : Nat) : Prop := NodeT t ∨ KeptTy t
set_option maxRecDepth 100000 in
theorem markEngine_any (x : Engine) (q0 : Int) (cs : List Value) (R : Nat → Prop) (w : World) (hq0 : 1 ≤ q0) (hq1 : q0 ≤ 7000000000000) (F : x.fits 1048576) (h : EngineIn true R w cs x) :
    Calls Try.prog 14 #[.agg cs.toArray, .int .i64 q0] w fun e w' => ∃ q : Int, e = .returned (.int .i64 q) ∧ q0 ≤ q ∧ q ≤ q0 + x.tree.length * 6000000 + x.kept.memos.length * 6000000 + x.kept.asked.length * 6 + x.frames.length * 5 ∧ Mod R w w' ∧ KeepB AllT w w' := by
  obtain ⟨t, k0, k1, fa, fc, rfl, ⟨ta, tc, et, hn, hnw⟩, ⟨ka, kc, kb, kd, ek, hm, ha, hkw⟩, hfr, hfw⟩ := h
  simp only [List.cons.injEq, and_true] at et ek
  obtain rfl := et
  obtain ⟨rfl, rfl⟩ := ek
  obtain ⟨F1, ⟨F2, F3, F4⟩, F5⟩ := F
  have hN : NodeWr R w ta x.tree.length := by
    rcases hnw rfl with h | ⟨g, N, rfl, h2, h3, h4⟩
    · exact .inl h
    · exact NodeSlice.wr hn h4 h3 F1.2 h2
  have hM : MemoWr R w ka x.kept.memos.length := by
    rcases (hkw rfl).1 with h | ⟨g, N, rfl, h2, h3, h4⟩
    · exact .inl h
    · exact MemoSlice.wr hm h4 h3 F4 h2
  have hA := (hkw rfl).2.1
  have hW := hfw rfl
  have l1 := F1.1
  refine calls_sxJ (markRg w R NoT) ⟨Nat.le_refl _, KeepB.refl _ _⟩ Try.func14 rfl rfl (fun a h1 h2 h3 => ((Fr.nil h1 h2).arg (h3 1 _ rfl)).arg (h3 0 _ rfl)) ?_
  repeat (first | refine SX.seq ?_ | refine SXl.nil ?_ | refine SX.region ?_ | refine SQ.thenNormal ?_ | (refine l_load ?_; (refine SXl.v (OpW.loadRow 0 rfl rfl rfl rfl) rfl ?_ ?_ ?_); rfl; rfl) | (refine l_fieldAddr ?_; (refine SXl.v (OpW.fieldAddr rfl) rfl ?_ ?_ ?_); rfl; rfl) | (refine l_move ?_; (refine SXl.v (OpW.move rfl) rfl ?_ ?_ ?_); rfl; rfl) | (refine l_assign ?_; (refine SXl.v (OpW.assign rfl) rfl ?_ ?_ ?_); rfl; rfl) | (refine l_box ?_; refine SXl.box ?_ ?_ rfl rfl (fun g => ?_); rfl; rfl))
  refine l_call ?_
  refine SXl.callJ2 (ξ := Int) (v := fun q => .int .i64 q) (markRg w R NodeT) (fun _ h => h) (fun _ h => h) rfl rfl rfl (fun q => q0 ≤ q ∧ q ≤ q0 + x.tree.length * 6000000) (fun w' hl => (markTree_any _ tc ta _ w' q0 hq0 (by omega) F1.1 (hN.low.keep hl.inv.2 (fun f => f))).mono fun e w2 ⟨q, he, h1, h2, hm, hk⟩ => ⟨q, he, ⟨h1, h2⟩, hm, Nat.le_trans hl.inv.1 hm.size, (hl.inv.2.mono (fun _ f => f.elim)).trans hk⟩) ?_
  intro q ⟨h1, h2⟩
  repeat (first | refine SX.seq ?_ | refine SXl.nil ?_ | refine SX.region ?_ | refine SQ.thenNormal ?_ | (refine l_load ?_; (refine SXl.v (OpW.loadRow 0 rfl rfl rfl rfl) rfl ?_ ?_ ?_); rfl; rfl) | (refine l_fieldAddr ?_; (refine SXl.v (OpW.fieldAddr rfl) rfl ?_ ?_ ?_); rfl; rfl) | (refine l_move ?_; (refine SXl.v (OpW.move rfl) rfl ?_ ?_ ?_); rfl; rfl) | (refine l_assign ?_; (refine SXl.v (OpW.assign rfl) rfl ?_ ?_ ?_); rfl; rfl))
  refine l_call ?_
  refine SXl.callJ2 (ξ := Int) (v := fun q => .int .i64 q) (markRg w R AllT) (fun _ h => h) (fun _ h => h) rfl rfl rfl (fun p => q ≤ p ∧ p ≤ q + x.kept.memos.length * 6000000 + x.kept.asked.length * 6) (fun w' hl => (markKept_any _ kc _ kd ka kb _ w' q (by omega) (by omega) F2 F3 (hM.low.keep hl.inv.2 (by decide)) (hA.low.keep hl.inv.2)).mono fun e w2 ⟨q, he, h1, h2, hm, hk⟩ => ⟨q, he, ⟨h1, h2⟩, hm, Nat.le_trans hl.inv.1 hm.size, (hl.inv.2.mono (fun _ h => .inl h)).trans (hk.mono fun _ h => .inr h)⟩) ?_
  intro p ⟨h3, h4⟩
  repeat (first | refine SX.seq ?_ | refine SXl.nil ?_ | refine SX.region ?_ | refine SQ.thenNormal ?_ | (refine l_load ?_; (refine SXl.v (OpW.load 0 rfl rfl rfl) rfl ?_ ?_ ?_); rfl; rfl) | (refine l_fieldAddr ?_; (refine SXl.v (OpW.fieldAddr rfl) rfl ?_ ?_ ?_); rfl; rfl) | (refine l_move ?_; (refine SXl.v (OpW.move rfl) rfl ?_ ?_ ?_); rfl; rfl) | (refine l_assign ?_; (refine SXl.v (OpW.assign rfl) rfl ?_ ?_ ?_); rfl; rfl))
  refine l_call ?_
  refine SXl.callJ1 (fun _ h => h) rfl rfl rfl (fun w' hl => (markFrameS_wr _ fc fa _ w' p (by omega) (by omega) F5 (hW.low.keep hl.inv.2)).mono fun e w2 ⟨he, hm, hk⟩ => ⟨he, hm, Nat.le_trans hl.inv.1 hm.size, hl.inv.2.trans (hk.mono fun _ h => .inr (.inr (.inl h)))⟩) ?_
  repeat (first | refine SX.seq ?_ | refine SXl.nil ?_ | refine SX.region ?_ | refine SQ.thenNormal ?_ | (refine l_move ?_; (refine SXl.v (OpW.move rfl) rfl ?_ ?_ ?_); rfl; rfl) | (refine l_assign ?_; (refine SXl.v (OpW.assign rfl) rfl ?_ ?_ ?_); rfl; rfl) | refine SX.ret ?_)
  refine SQ.body1 rfl rfl (fun w' hl => ⟨_, rfl, by omega, by omega, modlow hl.mod, hl.inv.2⟩)
end Go.Proofs.Ythffgbhphjkdeaa
namespace Go.Proofs.Ythffgbhphjkdeaa
open Go.RowKit

/-- Where a slice lies. -/
structure SlP where
  a : Option Addr
  c : Nat
  lo : Nat
def ownRes {α : Type} (cells : α → List Value) (e sz : Nat) (l : List α) (q : SlP) : Res where
  foot := fun k => (Value.slice q.a l.length q.c).ownBlock = some k
  says := fun w => w.ownsRow q.lo e sz (.slice q.a l.length q.c) l.length (l.map cells).flatten
  stable := fun _ _ _ h hm hs => ownsRow_keep h hm hs
theorem new_own {α : Type} {cells : α → List Value} {e sz : Nat} {l : List α} {w w' : World} {en : Ending} (h : NewSlice e sz w l.length (l.map cells).flatten en w') : NewR SlP (fun q => .slice q.a l.length q.c) (ownRes cells e sz l) w en w' := by
  obtain ⟨a, c, he, ho, hm⟩ := h
  exact ⟨⟨a, c, w.heap.size⟩, he, ⟨ho, fun k hk => ownBlock_lt ho hk⟩, hm⟩
theorem own_in {α : Type} {cells : α → List Value} {e sz : Nat} {l : List α} {q : SlP} {W : World} {R : Rg W} {L : List Blk} {O : List Own} {E : List Res} {w : World} (h : Loc W R L O E w) (hm : ownRes cells e sz l q ∈ E) (hc : ∀ x, (cells x).length = sz) (hsz : sz ≠ 0) : SliceAt (Flat cells) sz (fun k => q.lo ≤ k) w q.a l := own_slice (h.res _ hm).1 hc hsz
/-- Memory of which nothing more is told. -/
def deadRes : Res := ⟨fun _ => False, fun _ => True, fun _ _ _ _ _ _ => trivial⟩

end Go.Proofs.Ythffgbhphjkdeaa
namespace Go.Proofs.Ythffgbhphjkdeaa
open Go.RowKit

end Go.Proofs.Ythffgbhphjkdeaa
namespace Go.Proofs.Ythffgbhphjkdeaa
open Go.RowKit

end Go.Proofs.Ythffgbhphjkdeaa
namespace Go.Proofs.Ythffgbhphjkdeaa
open Go.RowKit
set_option linter.unusedVariables false
set_option linter.unusedSimpArgs false

section
variable {P : Program} {n : Nat} {W : World} {R : Rg W} {L : List Blk} {O : List Own} {E : List Res} {f : List (Nat × Value)} {Q : Exit → Go.Act → World → Prop} {ops : Array Oper} {rest : List Oper}
/-- A cursor may turn. -/
def curRg (T : TypeId) (B g : Nat) (W : World) (hg : g < W.heap.size) (hB : B ≤ g) : Rg W where
  p := fun k => k = g
  q := fun _ => False
  J := fun w => Cur B T w g
  low := fun k hk => by subst hk; exact hg
  sub := fun _ h => h.elim
  keep := fun S w w' h hm hs => h.mod hm (fun hS => hs g hg hS) (fun k hk hS => hs k (by omega) hS)
/-- What a drawing call gives. -/
def DrewV {ξ : Type} (T : TypeId) (B g : Nat) (w : World) (v : ξ → Value) (K : ξ → Prop) (e : Ending) (w' : World) : Prop := ∃ x, e = .returned (v x) ∧ K x ∧ Mod (fun k => k = g) w w' ∧ Cur B T w' g
theorem Drew.v {T : TypeId} {B g : Nat} {w : World} {p : Int → Prop} {e : Ending} {w' : World} (h : Drew B T g w p e w') : DrewV T B g w (fun x : Int => .int .i64 x) p e w' := by
  obtain ⟨x, hp, he, hc, hm⟩ := h
  exact ⟨x, he, hp, hm, hc⟩
variable {d : Option Nat} {dn g B T : Nat} {fn : FuncId} {ars : List Operand} {args : List Value} {aT : Array TypeId} {ty : TypeId} {pos : String} {af : Array Edge} {gd : Option (Nat × Bool)} {hg : g < W.heap.size} {hB : B ≤ g}
theorem SXl.draw {ξ : Type} {v : ξ → Value} [TFun P fn] (hw : wantO ops f ⟨some dn, .call ⟨.value (.func fn), ars.toArray, aT⟩, ty, pos, af, gd⟩ = some true) (hd : Nat.blt dn n = true) (ha : evL f ars = some args) (K : ξ → Prop)
    (hc : ∀ w, Loc W (curRg T B g W hg hB) L O [] w → Calls P fn args.toArray w (DrewV T B g w v K))
    (h : ∀ x, K x → SXl P n W (curRg T B g W hg hB) ops L O [] ((dn, v x) :: f) rest Q) : SXl P n W (curRg T B g W hg hB) ops L O [] f (⟨some dn, .call ⟨.value (.func fn), ars.toArray, aT⟩, ty, pos, af, gd⟩ :: rest) Q :=
  SXl.callJ (ξ := ξ) (v := v) (fun _ h => h) hw hd ha K hc h
end
end Go.Proofs.Ythffgbhphjkdeaa
namespace Go.Proofs.Ythffgbhphjkdeaa
open Go.RowKit

/-- What a block that a pointer names is. -/
def gOf (v : Value) : Nat := match v with
  | .pointer (some a) => a.block
  | _ => 0
/-- Only a new block of the cells z may turn, to the cells r. -/
def TQ (B T0 : Nat) (z r : List Value) (w w' : World) : Prop := Mod (fun k => B ≤ k ∧ w.heap[k]? = some (.cells z.toArray T0 (0, 0)) ∧ w'.heap[k]? = some (.cells r.toArray T0 (0, 0))) w w'
structure Far (W : World) (L : List Blk) (O : List Own) (E : List Res) (B : Nat) : Prop where
  old : W.heap.size ≤ B
  blk : ∀ b ∈ L, b.g < B
  own : ∀ o ∈ O, ∀ k, o.v.ownBlock = some k → k < B
  res : ∀ F ∈ E, ∀ k, F.foot k → k < B
section
variable {P : Program} {n : Nat} {W : World} {R : Rg W} {L : List Blk} {O : List Own} {E : List Res} {w w' : World} {B T0 : Nat} {z r : List Value}
theorem Loc.far (h : Loc W R L O E w) : Far W L O E w.heap.size := ⟨h.mod.size, fun b hb => h.blk_lt hb, fun o ho k hk => (ownBlock_lt (h.own o ho).1 hk).2, fun F hF k hk => (h.res F hF).2.1 k hk⟩
theorem Loc.keepQ (hf : Far W L O E B) (h : Loc W R L O E w) (hm : TQ B T0 z r w w') : Loc W R L O E w' :=
  h.frame hm (fun k hk hs => by have := hf.old; have := hs.1; omega) (fun b hb hs => by have := hf.blk b hb; have := hs.1; omega) (fun o ho k hk hs => by have := hf.own o ho k hk; have := hs.1; omega) (fun F hF k hk hs => by have := hf.res F hF k hk; have := hs.1; omega)
theorem Loc.addNew (hf : Far W L O E B) (h : Loc W R L O E w) {g : Nat} (hg : B ≤ g) (hb : w.heap[g]? = some (.cells r.toArray T0 (0, 0))) : Loc W R (⟨g, r, T0⟩ :: L) O E w where
  mod := h.mod
  inv := h.inv
  blk := fun b hbm => by
    rcases List.mem_cons.1 hbm with rfl | hbm
    · exact ⟨.inr (Nat.le_trans hf.old hg), hb⟩
    · exact h.blk b hbm
  apart := List.pairwise_cons.2 ⟨fun b hbm e => by have := hf.blk b hbm; simp only at e; omega, h.apart⟩
  own := fun o ho => ⟨(h.own o ho).1, fun b hbm e => by
    rcases List.mem_cons.1 hbm with rfl | hbm
    · have := hf.own o ho _ e; simp only at this; omega
    · exact (h.own o ho).2 b hbm e⟩
  ownApart := h.ownApart
  res := fun F hF => ⟨(h.res F hF).1, (h.res F hF).2.1, fun b hbm f => by
    rcases List.mem_cons.1 hbm with rfl | hbm
    · have := hf.res F hF _ f; simp only at this; omega
    · exact (h.res F hF).2.2.1 b hbm f, (h.res F hF).2.2.2⟩
  resNew := h.resNew
  resApart := h.resApart
/-- A pointer at a new block of the cells z or r. -/
def AV (B T0 : Nat) (z r : List Value) (w : World) (v : Value) : Prop := ∃ g, v = .pointer (some ⟨g, 0, none⟩) ∧ B ≤ g ∧ (w.heap[g]? = some (.cells z.toArray T0 (0, 0)) ∨ w.heap[g]? = some (.cells r.toArray T0 (0, 0)))
theorem AV.keep {v : Value} (h : AV B T0 z r w v) (hm : TQ B T0 z r w w') : AV B T0 z r w' v := by
  obtain ⟨g, h1, h2, h3⟩ := h
  refine ⟨g, h1, h2, ?_⟩
  by_cases hs : B ≤ g ∧ w.heap[g]? = some (.cells z.toArray T0 (0, 0)) ∧ w'.heap[g]? = some (.cells r.toArray T0 (0, 0))
  · exact .inr hs.2.2
  · have hlt : g < w.heap.size := by rcases h3 with h3 | h3 <;> exact (Array.getElem?_eq_some_iff.1 h3).1
    rw [hm.block g hlt hs]
    exact h3
/-- The block that operation ka made holds the cells r. -/
def SV (ka T0 : Nat) (r : List Value) (x : Nat → Value) (w : World) (_ : Value) : Prop := w.heap[gOf (x ka)]? = some (.cells r.toArray T0 (0, 0))
theorem SV.keep {ka : Nat} {x : Nat → Value} {v : Value} (h : SV ka T0 r x w v) (hm : TQ B T0 z r w w') : SV ka T0 r x w' v := by
  unfold SV at *
  by_cases hs : B ≤ gOf (x ka) ∧ w.heap[gOf (x ka)]? = some (.cells z.toArray T0 (0, 0)) ∧ w'.heap[gOf (x ka)]? = some (.cells r.toArray T0 (0, 0))
  · exact hs.2.2
  · rw [hm.block _ (Array.getElem?_eq_some_iff.1 h).1 hs]
    exact h
structure SXq (P : Program) (n : Nat) (W : World) (R : Rg W) (ops : Array Oper) (L : List Blk) (O : List Own) (E : List Res) (B T0 : Nat) (z r : List Value) (k : Nat) (U : List (Nat × ((Nat → Value) → World → Value → Prop))) (f : (Nat → Value) → List (Nat × Value)) (l : List Oper) (Q : Exit → Act → World → Prop) : Prop where
  run : ∀ F : (Nat → Value) → Act, (∀ x, Fr n (f x) (F x)) → RS P ops (TQ B T0 z r) (fun w => Loc W R L O E w ∧ B ≤ w.heap.size) Q k l F U
end
section
variable {P : Program} {n : Nat} {W : World} {R : Rg W} {L : List Blk} {O : List Own} {E : List Res} {U : List (Nat × ((Nat → Value) → World → Value → Prop))} {f : (Nat → Value) → List (Nat × Value)} {f0 : List (Nat × Value)} {Q : Exit → Act → World → Prop} {ops : Array Oper} {rest : List Oper} {k B T0 : Nat} {z r : List Value}
theorem SXq.v {o : Oper} {v : Value} {d : Nat} (hr : ∀ x, OpW P n W R L O E (f x) o v) (hdst : o.dst = some d) (hw : ∀ x, wantO ops (f x) o = some true) (hd : Nat.blt d n = true) (h : SXq P n W R ops L O E B T0 z r (k + 1) U (fun x => (d, v) :: f x) rest Q) : SXq P n W R ops L O E B T0 z r k U f (o :: rest) Q := ⟨fun F hF =>
  RS.val [] (fun _ => v) rfl (fun _ _ _ => rfl) (fun x => wanted_of (hF x) (hw x)) (fun x w hS _ => wp_never ((hr x).run _ w (hF x) hS.1) fun _ _ ⟨h1, h2⟩ => ⟨h1, ⟨hS.1.keep h2, Nat.le_trans hS.2 h2.size⟩, h2.mono fun _ _ f => f.elim⟩) (by rw [hdst]; exact h.run _ fun x => (hF x).put hd v)⟩
theorem SXq.no {o : Oper} {d : Nat} (hw : ∀ x, wantO ops (f x) o = some false) (hdst : o.dst = some d) (hd : Nat.blt d n = true) (h : SXq P n W R ops L O E B T0 z r (k + 1) U (fun x => (d, undef) :: f x) rest Q) : SXq P n W R ops L O E B T0 z r k U f (o :: rest) Q := ⟨fun F hF =>
  RS.skip (fun x => wanted_of (hF x) (hw x)) (by rw [hdst]; exact h.run _ fun x => (hF x).put hd undef)⟩
variable {d m ka ks : Nat} {xo yo : Operand} {ty : TypeId} {pos : String} {af : Array Edge} {gd : Option (Nat × Bool)}
theorem SXq.alloc [t : TZero P T0 z] (hf : Far W L O E B) (hw : ∀ x, wantO ops (f x) ⟨some d, .alloc T0, ty, pos, af, gd⟩ = some true) (hd : Nat.blt d n = true)
    (h : SXq P n W R ops L O E B T0 z r (k + 1) ((k, fun _ => AV B T0 z r) :: U) (fun x => (d, .pointer (some ⟨gOf (x k), 0, none⟩)) :: f x) rest Q) : SXq P n W R ops L O E B T0 z r k U f (⟨some d, .alloc T0, ty, pos, af, gd⟩ :: rest) Q := ⟨fun F hF =>
  RS.new [] (AV B T0 z r) (fun v => .pointer (some ⟨gOf v, 0, none⟩)) (fun _ v ⟨g, hv, _⟩ => by subst hv; rfl) rfl (fun _ _ _ h hm => h.keep hm) (fun x => wanted_of (hF x) (hw x)) (fun x w hS _ => by
    obtain ⟨v, h1, h2⟩ := t.h
    obtain ⟨i, hi, hz⟩ := Option.map_eq_some_iff.1 h1
    have hrun : (execOp (F x).eval ⟨some d, .alloc T0, ty, pos, af, gd⟩).run P w = .ok (.value (.pointer (some ⟨w.heap.size, 0, none⟩))) (w.alloc (.cells z.toArray T0)) := by
      simp [execOp, Instr.alloc, zeroValue, typeInfo, hi, hz, newVar, newRow, h2]
    unfold Oper.wp
    rw [hrun, Oper.upon_value]
    have hm : Mod (fun _ => False) w (w.alloc (.cells z.toArray T0)) := (Mod.refl _ w).alloc _
    exact ⟨_, rfl, ⟨w.heap.size, rfl, hS.2, .inl (heap_alloc_new w _)⟩, ⟨hS.1.keep hm, Nat.le_trans hS.2 hm.size⟩, hm.mono fun _ _ f => f.elim⟩) (h.run _ fun x => (hF x).put hd _)⟩
theorem SXq.store (ka : Nat) [t : TRow P T0 m] (hf : Far W L O E B) (hus : ([ka].all fun i => (reach ops ops.size k).contains i) = true) (hU : (ka, fun _ => AV B T0 z r) ∈ U) (hw : ∀ x, wantO ops (f x) ⟨none, .store T0 xo yo, ty, pos, af, gd⟩ = some true) (hx : ∀ x, evO (f x) xo = some (.pointer (some ⟨gOf (x ka), 0, none⟩))) (hy : ∀ x, evO (f x) yo = some (.agg r.toArray)) (hr : r.length = m) (hz : z.length = m) (hv : r.all (·.oneCell') = true)
    (h : SXq P n W R ops L O E B T0 z r (k + 1) ((k, SV ka T0 r) :: U) f rest Q) : SXq P n W R ops L O E B T0 z r k U f (⟨none, .store T0 xo yo, ty, pos, af, gd⟩ :: rest) Q := ⟨fun F hF =>
  RS.newx [ka] (SV ka T0 r) id (fun _ _ _ _ => rfl) hus ⟨fun _ _ _ _ h hm => h.keep hm, fun x y w v hxy h => by unfold SV at *; rw [← hxy ka List.mem_cons_self]; exact h⟩ (fun x => wanted_of (hF x) (hw x)) (fun x w hS hK => by
    obtain ⟨_, h3⟩ := t.h
    obtain ⟨g, hg, hB, hc⟩ := hK _ hU List.mem_cons_self
    have eg : gOf (x ka) = g := by rw [hg]; rfl
    have hxx := hx x
    rw [eg] at hxx
    have key : ∀ cs : List Value, cs.length = m → w.heap[g]? = some (.cells cs.toArray T0 (0, 0)) → (execOp (F x).eval ⟨none, .store T0 xo yo, ty, pos, af, gd⟩).run P w = .ok .skip (w.setCells g 0 r) ∧ (w.setCells g 0 r).heap[g]? = some (.cells r.toArray T0 (0, 0)) := fun cs hcs hb => by
      have e := run_store_row (P := P) (ty := T0) h3 (w := w) (b := g) (o := 0) (S := r.toArray) (by simp [hasRow, hb, hcs]) (by simp [openRow, hb]) (by simpa using hr) (by simpa using hv)
      refine ⟨by simp [execOp, (hF x).eval hxx, (hF x).eval (hy x), e], ?_⟩
      rw [setCells_heap g r 0 w _ _ _ hb, spl_over]
      have := over_all r cs [] (by omega)
      simp only [List.nil_append, List.length_nil] at this
      rw [this]
    have hmm := mod_setCells g r 0 w
    have fin : (execOp (F x).eval ⟨none, .store T0 xo yo, ty, pos, af, gd⟩).run P w = .ok .skip (w.setCells g 0 r) ∧ (w.setCells g 0 r).heap[g]? = some (.cells r.toArray T0 (0, 0)) ∧ TQ B T0 z r w (w.setCells g 0 r) := by
      rcases hc with hc | hc
      · obtain ⟨k1, k2⟩ := key z hz hc
        exact ⟨k1, k2, hmm.mono fun k _ e => by subst e; exact ⟨hB, hc, k2⟩⟩
      · obtain ⟨k1, k2⟩ := key r hr hc
        exact ⟨k1, k2, hmm.os, hmm.tape, hmm.output, hmm.size, fun k hk hn => by
          by_cases e : k = g
          · subst e; rw [k2, hc]
          · exact hmm.block k hk e⟩
    obtain ⟨k1, k2, k3⟩ := fin
    unfold Oper.wp
    rw [k1, Oper.upon_skip]
    exact ⟨undef, rfl, by unfold SV; rw [eg]; exact k2, ⟨Loc.keepQ hf hS.1 k3, Nat.le_trans hS.2 k3.size⟩, k3⟩) (h.run _ hF)⟩
theorem SXq.nil (ka ks : Nat) (hf : Far W L O E B) (hA : (ka, fun _ => AV B T0 z r) ∈ U) (hS : (ks, SV ka T0 r) ∈ U) (h : ∀ x, SQ n W R (⟨gOf (x ka), r, T0⟩ :: L) O E (f x) .normal Q) : SXq P n W R ops L O E B T0 z r k U f [] Q := ⟨fun F hF => RS.done fun x w hSw hU => by
  obtain ⟨g, hg, hB, _⟩ := hU _ hA
  have hs := hU _ hS
  have eg : gOf (x ka) = g := by rw [hg]; rfl
  exact (h x).run _ w (hF x) (Loc.addNew hf hSw.1 (by rw [eg]; exact hB) hs)⟩
/-! A literal slice of one cell, made in the region's head. -/
theorem SXq.tail (h : ∀ x, SXl P n W R ops L O E (f x) rest Q) : SXq P n W R ops L O E B T0 z r k U f [] (fun _ a w => wpList P ops Q rest a w) := ⟨fun F hF => RS.done fun x w hSw _ => (h x).run _ w (hF x) hSw.1⟩
end
end Go.Proofs.Ythffgbhphjkdeaa
namespace Go.Proofs.Ythffgbhphjkdeaa
open Go.RowKit
set_option linter.unusedVariables false
set_option linter.unusedSimpArgs false

/-- Slices of the call's own, each in a block of its own. -/
structure Owns (base : Nat) (w : World) (os : List Own) : Prop where
  row : ∀ o ∈ os, w.ownsRow base o.e o.sz o.v o.n o.xs
  apart : os.Pairwise (fun a b => ∀ k, a.v.ownBlock = some k → b.v.ownBlock ≠ some k)
theorem Owns.nil (base : Nat) (w : World) : Owns base w [] := ⟨fun _ h => (List.not_mem_nil h).elim, .nil⟩
theorem Owns.mod {base : Nat} {w w' : World} {os : List Own} {S : Nat → Prop} (h : Owns base w os) (hm : Mod S w w') (hs : ∀ o ∈ os, ∀ k, o.v.ownBlock = some k → ¬ S k) : Owns base w' os :=
  ⟨fun o ho => ownsRow_keep (h.row o ho) hm (hs o ho), h.apart⟩
theorem Owns.keep {base : Nat} {w w' : World} {os : List Own} (h : Owns base w os) (hm : Mod (fun _ => False) w w') : Owns base w' os := h.mod hm fun _ _ _ _ f => f
theorem Owns.low {base base' : Nat} {w : World} {os : List Own} (h : Owns base w os) (hb : base' ≤ base) : Owns base' w os := ⟨fun o ho => World.ownsRow.mono (h.row o ho) hb, h.apart⟩
theorem Owns.left {base : Nat} {w : World} {os ps : List Own} (h : Owns base w (os ++ ps)) : Owns base w os := ⟨fun o ho => h.row o (List.mem_append_left _ ho), (List.pairwise_append.1 h.apart).1⟩
theorem Owns.sub {base : Nat} {w : World} {os ps : List Own} (h : Owns base w ps) (hs : os.Sublist ps) : Owns base w os := ⟨fun o ho => h.row o (hs.subset ho), h.apart.sublist hs⟩
section
variable {P : Program} {n : Nat} {W : World} {R : Rg W} {L : List Blk} {O : List Own} {E : List Res} {w w' : World} {B : Nat} {os : List Own}
theorem Loc.owns (h : Loc W R L O E w) : Owns W.heap.size w O := ⟨fun o ho => (h.own o ho).1, h.ownApart⟩
end
section
variable {P : Program} {n : Nat} {W : World} {R : Rg W} {L : List Blk} {O : List Own} {E : List Res} {f : List (Nat × Value)} {Q : Exit → Act → World → Prop} {ops : Array Oper} {rest : List Oper} {d : Option Tmp} {dn : Nat} {T : TypeId} {x y : Operand} {ty : TypeId} {pos : String} {af : Array Edge} {gd : Option (Nat × Bool)} {g o : Nat}
end
end Go.Proofs.Ythffgbhphjkdeaa
namespace Go.Proofs.Ythffgbhphjkdeaa
open Go.RowKit
set_option linter.unusedVariables false
set_option linter.unusedSimpArgs false

/-- Where the part from i on lies. -/
def fromAddr (a : Option Addr) (c i sz : Nat) : Option Addr := if c = i then a else a.map (·.add (i * sz))
theorem SliceAt.dropS {α : Type} {rep : World → List Value → α → Prop} {sz : Nat} {R : Nat → Prop} {w : World} {a : Option Addr} {l : List α} {c : Nat} (h : SliceAt rep sz R w a l) (hc : l.length ≤ c) (i : Nat) : SliceAt rep sz R w (fromAddr a c i sz) (l.drop i) := by
  obtain ⟨rows, h1, h2, h3⟩ := h
  refine ⟨rows.drop i, ?_, by simp [h2], fun j r x hr hx => ?_⟩
  · by_cases hi : l.length ≤ i
    · exact .inl (List.drop_eq_nil_of_le (by omega))
    · rcases h1 with rfl | ⟨b, o, rfl, hR, hb, h⟩
      · exact .inl (by simp)
      · refine .inr ⟨b, o + i * sz, ?_, hR, hb, fun j r hr => ?_⟩
        · unfold fromAddr
          rw [if_neg (by omega)]
          simp [Addr.add_lit]
        · rw [List.getElem?_drop] at hr
          have := h (i + j) r hr
          refine ⟨this.1, fun m v hv => ?_⟩
          have := this.2 m v hv
          rwa [Nat.add_mul, ← Nat.add_assoc] at this
  · rw [List.getElem?_drop] at hr hx
    exact h3 (i + j) r x hr hx
section
variable {P : Program} {n : Nat} {W : World} {R : Rg W} {L : List Blk} {O : List Own} {E : List Res} {f : List (Nat × Value)} {d : Option Tmp} {T : TypeId} {x y : Operand} {ty : TypeId} {pos : String} {af : Array Edge} {gd : Option (Nat × Bool)}
theorem OpW.sliceFromS {e sz m c i : Nat} {a : Option Addr} [t : TSl P T e sz] (hx : evO f x = some (.slice a m c)) (hy : evO f y = some (.int .i64 (i : Int))) (hi : i ≤ m) : OpW P n W R L O E f ⟨d, .slice T x (some y) none none, ty, pos, af, gd⟩ (.slice (fromAddr a c i sz) (m - i) (c - i)) :=
  OpW.of (fun q w hf _ => by
    obtain ⟨h1, h2⟩ := t.h
    obtain ⟨ti, hti, hs⟩ := Option.map_eq_some_iff.1 h2
    have h0 : (0 : Int) ≤ (i : Int) ∧ (i : Int) ≤ (m : Int) := by omega
    simp [execOp, hf.eval hx, hf.eval hy, Instr.sliceAt, Instr.slice, run_underlying h1, Instr.sliceBounds, Instr.sliceBound, asIntOf, h0, sizeOf, typeInfo, hti, hs, fromAddr]
    intro; omega)
end
end Go.Proofs.Ythffgbhphjkdeaa
namespace Go.Proofs.Ythffgbhphjkdeaa
open Go.RowKit
set_option linter.unusedVariables false
set_option linter.unusedSimpArgs false

section
variable {P : Program} {n : Nat} {W : World} {R : Rg W} {L : List Blk} {O : List Own} {E : List Res} {f : List (Nat × Value)} {Q : Exit → Act → World → Prop} {ops : Array Oper} {rest : List Oper} {dn : Nat} {T e : TypeId} {x : Operand} {ty : TypeId} {pos : String} {af : Array Edge} {gd : Option (Nat × Bool)}
theorem SXl.lit0R {sz by_ : Nat} {z : Value} [t : TSl P T e sz] [te : TEl P e sz by_ z] (hw : wantO ops f ⟨some dn, .buildSlice T 0 #[], ty, pos, af, gd⟩ = some true) (hd : Nat.blt dn n = true) (hR : ∀ k, ¬ R.q k)
    (h : ∀ g, SXl P n W R ops L (⟨.slice (some ⟨g, 0, none⟩) 0 0, e, sz, 0, []⟩ :: O) E ((dn, .slice (some ⟨g, 0, none⟩) 0 0) :: f) rest Q) : SXl P n W R ops L O E f (⟨some dn, .buildSlice T 0 #[], ty, pos, af, gd⟩ :: rest) Q :=
  SXl.stepn (V := fun g => .slice (some ⟨g, 0, none⟩) 0 0) (L' := fun _ => L) (O' := fun g => ⟨.slice (some ⟨g, 0, none⟩) 0 0, e, sz, 0, []⟩ :: O) hw rfl hd (fun a w hf hl => by
    obtain ⟨i0, q1, q2, q3, q4, q5, q6⟩ := te.h
    refine ⟨w.heap.size, w.alloc (.cells #[] e), ?_, ((hl.alloc [] e).toOwn (m := 0) (hR _) (by simp) (by unfold maxLen; omega))⟩
    simp only [execOp, Instr.buildSlice, Sem.run_bind, run_underlying t.h.1, Result.andThen_ok, sizeOf, typeInfo, run_program, q1, Sem.run_pure, q3]
    have e4 : Array.map (fun _ : Nat => (default : Value)) (Array.range 0) = #[] := by simp
    simp [newRow, q1, q2, q3, e4, Instr.fill]
    done) h
end
end Go.Proofs.Ythffgbhphjkdeaa
namespace Go.Proofs.Ythffgbhphjkdeaa
open Go.RowKit
set_option linter.unusedVariables false
set_option linter.unusedSimpArgs false

/-- Operation k comes up: not before; whom it waits for have come; who has come up had its own behind it. -/
structure Adm (ops : Array Oper) (d : Nat → Bool) (k : Nat) : Prop where
  not : d k = false
  pre : ∀ i ∈ reach ops ops.size k, d i = true
  clo : ∀ j, d j = true → ∀ i ∈ reach ops ops.size j, d i = true
def upd (d : Nat → Bool) (k : Nat) : Nat → Bool := fun j => Nat.beq j k || d j
def upx (x : Nat → Value) (k : Nat) (v : Value) : Nat → Value := fun j => bif Nat.beq j k then v else x j
theorem Adm.done {ops : Array Oper} {d : Nat → Bool} {k : Nat} (h : Adm ops d k) (i : Nat) (hi : (reach ops ops.size k).contains i = true) : d i = true := h.pre i (by simpa using hi)
/-- Who waits for k has not come up. -/
theorem Adm.later {ops : Array Oper} {d : Nat → Bool} {k : Nat} (h : Adm ops d k) (j : Nat) (hj : (reach ops ops.size j).contains k = true) : d j = false := by
  cases hq : d j with
  | false => rfl
  | true =>
    have := h.clo j hq k (by simpa using hj)
    rw [h.not] at this
    cases this

/-- The walk in the text's order. d: who has come up; x: what the operations gave, by their number. -/
inductive RG (P : Program) (ops : Array Oper) (S : (Nat → Bool) → (Nat → Value) → World → Prop) (Q : Exit → Act → World → Prop) : Nat → List Oper → ((Nat → Value) → Act) → Prop
  | done {k : Nat} {F : (Nat → Value) → Act} (h : ∀ x w, S (fun i => Nat.blt i k) x w → Q .normal (F x) w) : RG P ops S Q k [] F
  | skip {k : Nat} {o : Oper} {rest : List Oper} {F : (Nat → Value) → Act} (hw : ∀ x, Region.wanted o (yielded ops (F x).tmps) = false) (hs : ∀ d x w, S d x w → S (upd d k) x w)
      (h : RG P ops S Q (k + 1) rest (fun x => (F x).put o.dst undef)) : RG P ops S Q k (o :: rest) F
  | val {k : Nat} {o : Oper} {rest : List Oper} {F : (Nat → Value) → Act} (us : List Nat) (g : (Nat → Value) → Value)
      (hus : (us.all fun i => (reach ops ops.size k).contains i) = true) (hg : ∀ x y, (∀ i ∈ us, x i = y i) → g x = g y)
      (hw : ∀ x, Region.wanted o (yielded ops (F x).tmps) = true)
      (ho : ∀ d x w, Adm ops d k → S d x w → o.wp P (F x) w (fun a' w' => a' = (F x).put o.dst (g x) ∧ S (upd d k) x w') never)
      (h : RG P ops S Q (k + 1) rest (fun x => (F x).put o.dst (g x))) : RG P ops S Q k (o :: rest) F
  | new {k : Nat} {o : Oper} {rest : List Oper} {F : (Nat → Value) → Act}
      (hw : ∀ x, Region.wanted o (yielded ops (F x).tmps) = true)
      (ho : ∀ d x w, Adm ops d k → S d x w → o.wp P (F x) w (fun a' w' => ∃ v, a' = (F x).put o.dst v ∧ S (upd d k) (upx x k v) w') never)
      (h : RG P ops S Q (k + 1) rest (fun x => (F x).put o.dst (x k))) : RG P ops S Q k (o :: rest) F

section
variable {P : Program} {ops : Array Oper} {S : (Nat → Bool) → (Nat → Value) → World → Prop} {Q : Exit → Act → World → Prop}
/-- What the walk says of one operation. -/
def SpecG (P : Program) (ops : Array Oper) (S : (Nat → Bool) → (Nat → Value) → World → Prop) (k : Nat) (o : Oper) (A : (Nat → Value) → Act) (g : (Nat → Value) → Value) : Prop :=
  ((∀ x, Region.wanted o (yielded ops (A x).tmps) = false) ∧ g = (fun _ => undef) ∧ ∀ d x w, S d x w → S (upd d k) x w) ∨
  (∃ us : List Nat, (∀ i ∈ us, i ∈ reach ops ops.size k) ∧ (∀ x y, (∀ i ∈ us, x i = y i) → g x = g y) ∧ (∀ x, Region.wanted o (yielded ops (A x).tmps) = true) ∧
    ∀ d x w, Adm ops d k → S d x w → o.wp P (A x) w (fun a' w' => a' = (A x).put o.dst (g x) ∧ S (upd d k) x w') never) ∨
  (g = (fun x => x k) ∧ (∀ x, Region.wanted o (yielded ops (A x).tmps) = true) ∧
    ∀ d x w, Adm ops d k → S d x w → o.wp P (A x) w (fun a' w' => ∃ v, a' = (A x).put o.dst v ∧ S (upd d k) (upx x k v) w') never)

theorem RG.out {k : Nat} {rest : List Oper} {F : (Nat → Value) → Act} (h : RG P ops S Q k rest F) :
    ∀ (a0 : Act) (G0 : Nat → (Nat → Value) → Value), (∀ j, j < rest.length → rest[j]? = ops[k + j]?) → F = (fun x => frm ops a0 G0 x k) →
    ∃ (G : Nat → (Nat → Value) → Value), (∀ i, i < k → G i = G0 i) ∧
      (∀ i o, k ≤ i → i < k + rest.length → ops[i]? = some o → SpecG P ops S i o (fun x => frm ops a0 G x i) (G i)) ∧
      (∀ x w, S (fun i => Nat.blt i (k + rest.length)) x w → Q .normal (frm ops a0 G x (k + rest.length)) w) := by
  have frmEq : ∀ (a0 : Act) (G G' : Nat → (Nat → Value) → Value) (m : Nat), (∀ i, i < m → G i = G' i) → ∀ x, frm ops a0 G x m = frm ops a0 G' x m := by
    intro a0 G G' m
    induction m with
    | zero => intro _ _; rfl
    | succ m ih => intro hG x; simp only [frm]; rw [ih (fun i hi => hG i (by omega)) x, hG m (by omega)]
  have more : ∀ (k : Nat) (o : Oper) (rest : List Oper) (g : (Nat → Value) → Value) (a0 : Act) (G0 : Nat → (Nat → Value) → Value),
      (∀ j, j < (o :: rest).length → (o :: rest)[j]? = ops[k + j]?) → SpecG P ops S k o (fun x => frm ops a0 G0 x k) g →
      (∀ (a1 : Act) (G1 : Nat → (Nat → Value) → Value), (∀ j, j < rest.length → rest[j]? = ops[k + 1 + j]?) → (fun x => (frm ops a0 G0 x k).put o.dst (g x)) = (fun x => frm ops a1 G1 x (k + 1)) →
        ∃ (G : Nat → (Nat → Value) → Value), (∀ i, i < k + 1 → G i = G1 i) ∧
          (∀ i o, k + 1 ≤ i → i < k + 1 + rest.length → ops[i]? = some o → SpecG P ops S i o (fun x => frm ops a1 G x i) (G i)) ∧
          (∀ x w, S (fun i => Nat.blt i (k + 1 + rest.length)) x w → Q .normal (frm ops a1 G x (k + 1 + rest.length)) w)) →
      ∃ (G : Nat → (Nat → Value) → Value), (∀ i, i < k → G i = G0 i) ∧
        (∀ i o', k ≤ i → i < k + (o :: rest).length → ops[i]? = some o' → SpecG P ops S i o' (fun x => frm ops a0 G x i) (G i)) ∧
        (∀ x w, S (fun i => Nat.blt i (k + (o :: rest).length)) x w → Q .normal (frm ops a0 G x (k + (o :: rest).length)) w) := by
    intro k o rest g a0 G0 hr hsp ih
    have ho : ops[k]? = some o := by simpa using (hr 0 (by simp)).symm
    have hd : dstOf ops k = o.dst := by simp [dstOf, ho]
    let G1 : Nat → (Nat → Value) → Value := fun i => if i = k then g else G0 i
    have g1 : ∀ i, i < k → G1 i = G0 i := fun i hi => if_neg (by omega)
    have gk : G1 k = g := if_pos rfl
    obtain ⟨G, e1, e2, e3⟩ := ih a0 G1 (fun j hj => by have := hr (j + 1) (by simp; omega); simpa [Nat.add_assoc, Nat.add_comm 1 j] using this)
      (by funext x; simp only [frm, gk, hd]; rw [frmEq a0 G1 G0 k g1 x])
    refine ⟨G, fun i hi => (e1 i (by omega)).trans (g1 i hi), fun i o' hi hlt ho' => ?_, by simpa [Nat.add_assoc, Nat.add_comm 1] using e3⟩
    by_cases e : i = k
    · subst e
      obtain rfl : o = o' := by rw [ho] at ho'; simpa using ho'
      have fe := frmEq a0 G G0 i (fun j hj => (e1 j (by omega)).trans (g1 j hj))
      have ge : G i = g := (e1 i (by omega)).trans gk
      rw [ge, show (fun x => frm ops a0 G x i) = fun x => frm ops a0 G0 x i from funext fe]
      exact hsp
    · exact e2 i o' (by omega) (by simp only [List.length_cons] at hlt; omega) ho'
  induction h with
  | @done k F h =>
    intro a0 G0 hr hF
    subst hF
    exact ⟨G0, fun i _ => rfl, fun i o hi hlt ho => by simp at hlt; omega, h⟩
  | @skip k o rest F hw hs h ih =>
    intro a0 G0 hr hF
    subst hF
    exact more k o rest (fun _ => undef) a0 G0 hr (.inl ⟨hw, rfl, hs⟩) ih
  | @val k o rest F us g hus hg hw hop h ih =>
    intro a0 G0 hr hF
    subst hF
    exact more k o rest g a0 G0 hr (.inr (.inl ⟨us, contains_all hus, hg, hw, hop⟩)) ih
  | @new k o rest F hw hop h ih =>
    intro a0 G0 hr hF
    subst hF
    exact more k o rest (fun x => x k) a0 G0 hr (.inr (.inr ⟨rfl, hw, hop⟩)) ih

/-- WHATEVER ORDER of the first n: the walk in the text's order serves; behind them the rest goes in its own order. -/
theorem RG.any {n : Nat} {a0 : Act} {w0 : World} (hc : regOkTo n ops = true) (ht : n = ops.size ∨ tailOk ops n = true) (h : RG P ops S (fun _ a w => wpList P ops Q (ops.toList.drop n) a w) 0 (ops.toList.take n) (fun _ => a0)) (hS : S (fun _ => false) (fun _ => undef) w0) :
    wpAny P .any ops Q ops.size (Array.replicate ops.size false) a0 w0 := by
  obtain ⟨c1, c2, c3, c4⟩ := regOk_spec hc
  have hnle : n ≤ ops.size := by
    rcases ht with rfl | ht
    · exact Nat.le_refl _
    · simp only [tailOk, Bool.and_eq_true, decide_eq_true_eq] at ht
      omega
  have htn : 0 + (ops.toList.take n).length = n := by simp; omega
  obtain ⟨G, _, hspec, hfin⟩ := h.out a0 (fun _ _ => undef) (fun j hj => by
    have hj' : j < n := by omega
    simp [hj']) rfl
  rw [htn] at hfin
  have gdep : ∀ i o, i < n → ops[i]? = some o → ∀ x y, (∀ j, (j ∈ reach ops ops.size i ∨ j = i) → x j = y j) → G i x = G i y := fun i o hin ho x y hxy => by
    have hs := hspec i o (Nat.zero_le _) (by rw [htn]; exact hin) ho
    rcases hs with ⟨_, hg, _⟩ | ⟨us, hus, hg, _⟩ | ⟨hg, _⟩
    · rw [hg]
    · exact hg x y fun j hj => hxy j (.inl (hus j hj))
    · rw [hg]; show x i = y i; rw [hxy i (.inr rfl)]
  have main : ∀ (fuel : Nat) (listed : Array Bool) (a : Act) (w : World) (x : Nat → Value), listed.size = ops.size → (unlistedTo n listed).length = fuel →
      (∀ i, listed.getD i false = true → ∀ o, ops[i]? = some o → ∀ e ∈ o.after, Region.binds .any e = true → listed.getD e.on false = true) →
      (∀ t, n ≤ t → t < ops.size → listed.getD t true = false) →
      Laid ops a0 G x (fun i => listed.getD i false = true) a → S (fun i => listed.getD i false) x w → wpAny P .any ops Q (fuel + (ops.size - n)) listed a w := by
    intro fuel
    induction fuel with
    | zero =>
      intro listed a w x hsz hfu hcl htl hla hSw
      have hall : ∀ i, i < n → listed.getD i false = true := fun i hi => by
        have h0 : unlistedTo n listed = [] := List.eq_nil_of_length_eq_zero hfu
        by_cases hn' : listed.getD i false = true
        · exact hn'
        · have : i ∈ unlistedTo n listed := by
            unfold unlistedTo
            rw [List.mem_filter, List.mem_range]
            have hi' : i < listed.size := by omega
            simp only [Array.getD_eq_getD_getElem?, Array.getElem?_eq_getElem hi', Option.getD_some, Bool.not_eq_true] at hn' ⊢
            exact ⟨hi, by rw [hn']; rfl⟩
          rw [h0] at this; simp at this
      have hon : ∀ i, listed.getD i false = true → i < n := fun i hi => by
        by_cases h : i < n
        · exact h
        · by_cases h2 : i < ops.size
          · have := getD_both (htl i (Nat.le_of_not_lt h) h2)
            rw [this] at hi; cases hi
          · rw [Array.getD_eq_getD_getElem?, Array.getElem?_eq_none (by omega)] at hi; cases hi
      have eL : listed = headDone n ops.size := by
        have hds : (headDone n ops.size).size = ops.size := by simp [headDone]; omega
        apply Array.ext (by rw [hds, hsz])
        intro i h1 h2
        have e1 : listed.getD i false = listed[i] := by simp [h1]
        by_cases hi : i < n
        · have := hall i hi
          rw [e1] at this
          rw [this]
          simp [headDone, hi]
        · have := getD_both (htl i (Nat.le_of_not_lt hi) (by omega))
          rw [e1] at this
          rw [this]
          simp [headDone, Array.getElem_append, hi]
      have e : a = frm ops a0 G x n := by
        have hb := laid_frm hc a0 G x n (by omega)
        have ht : a.tmps = (frm ops a0 G x n).tmps := by
          apply Array.ext_getElem?
          intro t
          by_cases hs : t < a0.tmps.size
          · by_cases he : ∃ i, i < n ∧ dstOf ops i = some t
            · obtain ⟨i, hin, hi⟩ := he
              rw [hla.on i t (hall i hin) hi hs, hb.on i t hin hi hs]
            · rw [hla.off t (fun i hli hi => he ⟨i, hon i hli, hi⟩), hb.off t (fun i hin hi => he ⟨i, hin, hi⟩)]
          · rw [Array.getElem?_eq_none (by rw [hla.size]; exact Nat.le_of_not_lt hs), Array.getElem?_eq_none (by rw [hb.size]; exact Nat.le_of_not_lt hs)]
        have hd : a.defers = (frm ops a0 G x n).defers := hla.defers.trans hb.defers.symm
        cases a; cases hf : frm ops a0 G x n
        rw [hf] at ht hd
        simp only at ht hd
        rw [ht, hd]
      have hlen : (ops.toList.drop n).length = ops.size - n := by simp
      have ed : (fun i => listed.getD i false) = fun i => Nat.blt i n := by
        funext i
        by_cases hi : i < n
        · rw [hall i hi]
          exact (show Nat.blt i n = true by simpa using hi).symm
        · have h1 : listed.getD i false = false := by
            cases hq : listed.getD i false with
            | false => rfl
            | true => exact (hi (hon i hq)).elim
          rw [h1]
          cases hq : Nat.blt i n with
          | false => rfl
          | true => exact (hi (by simpa using hq)).elim
      have hw := hfin x w (ed ▸ hSw)
      rw [← e] at hw
      rcases ht with rfl | ht
      · have e0 : ops.toList.drop ops.size = [] := List.drop_eq_nil_of_le (by simp)
        rw [e0] at hw
        rw [Nat.zero_add, Nat.sub_self]
        refine ⟨?_, hw⟩
        cases hr : Region.ready .any ops listed with
        | nil => rfl
        | cons i rest =>
          have hi : i ∈ Region.ready .any ops listed := by rw [hr]; exact List.mem_cons_self
          obtain ⟨h1, o, ho, _⟩ := mem_ready.1 hi
          have hlt := (Array.getElem?_eq_some_iff.1 ho).1
          have h2 := hall i hlt
          have hi' : i < listed.size := by omega
          simp only [Array.getD_eq_getD_getElem?, Array.getElem?_eq_getElem hi', Option.getD_some] at h1 h2
          rw [h1] at h2; cases h2
      · simp only [tailOk, Bool.and_eq_true, decide_eq_true_eq] at ht
        obtain ⟨⟨⟨hn, hs1⟩, hs2⟩, hs3⟩ := ht
        have := wpAny_of_seq (md := .any) (ops.toList.drop n) n listed a w (fun j => by simp [List.getElem?_drop]) (by rw [hlen, eL]; exact hs3) hw
        rw [hlen] at this
        rw [Nat.zero_add]
        exact this
    | succ fuel ih =>
      intro listed a w x hsz hfu hcl htl hla hSw
      have inv : HeadInv .any ops n listed := ⟨hsz, fun j oj hj hl e he hb => hcl j hl oj hj e he hb, htl⟩
      obtain ⟨j0, hj0⟩ : ∃ j0, j0 < n ∧ listed.getD j0 true = false := by
        cases hu : unlistedTo n listed with
        | nil => rw [hu] at hfu; cases hfu
        | cons j r =>
          have : j ∈ unlistedTo n listed := by rw [hu]; exact List.mem_cons_self
          unfold unlistedTo at this
          rw [List.mem_filter, List.mem_range] at this
          exact ⟨j, this.1, by simpa using this.2⟩
      have lt_of_listed : ∀ j, listed.getD j false = true → j < n := fun i hi => by
        by_cases h : i < n
        · exact h
        · by_cases h2 : i < ops.size
          · have := getD_both (htl i (Nat.le_of_not_lt h) h2)
            rw [this] at hi; cases hi
          · rw [Array.getD_eq_getD_getElem?, Array.getElem?_eq_none (by omega)] at hi; cases hi
      -- an operation that comes up
      have step : ∀ i ∈ Region.ready .any ops listed, wpOp P ops Q i (wpAny P .any ops Q (fuel + (ops.size - n)) (listed.setIfInBounds i true)) a w := by
        intro i hi
        have hin : i < n := by
          by_cases h : i < n
          · exact h
          · rcases ht with rfl | ht
            · obtain ⟨_, o, ho, _⟩ := mem_ready.1 hi
              exact (Array.getElem?_eq_some_iff.1 ho).1
            · simp only [tailOk, Bool.and_eq_true, decide_eq_true_eq] at ht
              obtain ⟨⟨⟨hn, hs1⟩, hs2⟩, hs3⟩ := ht
              exact (tail_waits hs1 hs2 hn inv (n - j0) j0 rfl hj0.1 hj0.2 i (Nat.le_of_not_lt h) hi).elim
        obtain ⟨h1, o, ho, h2⟩ := mem_ready.1 hi
        have hlt := (Array.getElem?_eq_some_iff.1 ho).1
        have hli : i < listed.size := by omega
        have hun : listed.getD i false = false := by
          simp only [Array.getD_eq_getD_getElem?, Array.getElem?_eq_getElem hli, Option.getD_some] at h1 ⊢
          exact h1
        have hd : dstOf ops i = o.dst := by simp [dstOf, ho]
        have hset : ∀ j, (listed.setIfInBounds i true).getD j false = true ↔ listed.getD j false = true ∨ j = i := fun j => by
          by_cases e : i = j
          · subst e; simp [hli]
          · rw [getD_set_ne false e]
            exact ⟨.inl, fun h => h.elim id fun h => (e h.symm).elim⟩
        have hcl' : ∀ j, (listed.setIfInBounds i true).getD j false = true → ∀ p, ops[j]? = some p → ∀ e ∈ p.after, Region.binds .any e = true → (listed.setIfInBounds i true).getD e.on false = true := fun j hj p hp e he hb => by
          rw [hset] at hj ⊢
          rcases hj with hj | rfl
          · exact .inl (hcl j hj p hp e he hb)
          · obtain rfl : o = p := by rw [ho] at hp; simpa using hp
            exact .inl (h2 e he hb)
        have hsz' : (listed.setIfInBounds i true).size = ops.size := by simpa using hsz
        have hfu' : (unlistedTo n (listed.setIfInBounds i true)).length = fuel := by
          have e : unlistedTo n (listed.setIfInBounds i true) = (unlistedTo n listed).erase i := by
            unfold unlistedTo
            rw [List.Nodup.erase_eq_filter (List.nodup_range.filter _), List.filter_filter]
            refine List.filter_congr fun j _ => ?_
            by_cases hj : i = j
            · subst hj; simp [hli]
            · rw [getD_set_ne true hj]; simp [Ne.symm hj]
          rw [e, List.length_erase_of_mem, hfu]
          · rfl
          · unfold unlistedTo
            rw [List.mem_filter, List.mem_range]
            exact ⟨hin, by rw [h1]; rfl⟩
        have htl' : ∀ t, n ≤ t → t < ops.size → (listed.setIfInBounds i true).getD t true = false := fun t ht ht' => by rw [getD_set_ne true (by omega)]; exact htl t ht ht'
        have hself : ∀ t ∈ o.looksAt ops, (∃ j, dstOf ops j = some t ∧ listed.getD j false = true ∧ j < i) ∨ ∀ j, dstOf ops j = some t → ¬ listed.getD j false = true ∧ ¬ j < i := fun t ht => by
          by_cases hex : ∃ j, j < n ∧ dstOf ops j = some t
          · obtain ⟨j, hjn, hj⟩ := hex
            obtain ⟨p, hp, hpt⟩ := Option.bind_eq_some_iff.1 hj
            obtain ⟨e, he, hb, rfl⟩ := c4 i j o p t hin hjn ho hp hpt ht
            exact .inl ⟨e.on, hj, h2 e he hb, c2 i o ho e he hb⟩
          · exact .inr fun j hj => ⟨fun hl => hex ⟨j, lt_of_listed j hl, hj⟩, fun hl => hex ⟨j, by omega, hj⟩⟩
        have hreach : ∀ j ∈ reach ops ops.size i, listed.getD j false = true :=
          reach_listed (L := fun j => listed.getD j false = true) hcl ops.size i (fun p hp e he hb => by
            obtain rfl : o = p := by rw [ho] at hp; simpa using hp
            exact h2 e he hb)
        have hdist : ∀ j t, listed.getD j false = true → dstOf ops j = some t → dstOf ops i = some t → j = i := fun j t _ hj hi' => by
          obtain ⟨p, hp, hpt⟩ := Option.bind_eq_some_iff.1 hj
          obtain ⟨q, hq, hqt⟩ := Option.bind_eq_some_iff.1 hi'
          exact c3 j i p q t (lt_of_listed j ‹_›) hin hp hq hqt hpt
        have hsel : ∀ cs c, o.op ≠ .select cs c := fun cs c => Region.noSelect_spec c1 i o cs c ho
        have hfr := laid_frm hc a0 G x i (by omega)
        obtain ⟨he, hwa⟩ := Laid.same hla hfr hsel hself
        have hlaid' : Laid ops a0 G x (fun j => (listed.setIfInBounds i true).getD j false = true) (a.put o.dst (G i x)) := by
          have := hla.put i hdist
          rw [hd] at this
          have e : (fun j => listed.getD j false = true ∨ j = i) = fun j => (listed.setIfInBounds i true).getD j false = true := funext fun j => propext (hset j).symm
          rwa [e] at this
        have hs := hspec i o (Nat.zero_le _) (by rw [htn]; omega) ho
        have adm : Adm ops (fun j => listed.getD j false) i := ⟨hun, hreach, fun j hj => reach_listed (L := fun j => listed.getD j false = true) hcl ops.size j (fun q hq e he hb => hcl j hj q hq e he hb)⟩
        have hupd : (fun j => (listed.setIfInBounds i true).getD j false) = upd (fun j => listed.getD j false) i := by
          funext j
          by_cases e : j = i
          · subst e
            rw [(hset j).2 (.inr rfl)]
            simp [upd]
          · rw [getD_set_ne false (fun h => e h.symm)]
            have e' : Nat.beq j i = false := Bool.eq_false_iff.2 fun h => e (Nat.eq_of_beq_eq_true h)
            simp [upd, e']
        unfold wpOp
        simp only [ho]
        rcases hs with ⟨hw, hg, hsk⟩ | ⟨us, hus, _, hw, hop⟩ | ⟨hg, hw, hop⟩
        · rw [hwa, hw x]
          simp only [Bool.false_eq_true, if_false]
          have hgu : G i x = undef := by rw [hg]
          rw [hgu] at hlaid'
          exact ih _ _ w x hsz' hfu' hcl' htl' hlaid' (by rw [hupd]; exact hsk _ _ _ hSw)
        · rw [hwa, hw x]
          simp only [if_true]
          refine .inl (Oper.wp_mono ?_ (upon_transfer (R := fun v w' => v = G i x ∧ S (upd (fun j => listed.getD j false) i) x w') (b := frm ops a0 G x i) (by rw [hla.size, hfr.size]) he ?_))
          · rintro a' w' ⟨v, rfl, rfl, hS'⟩
            exact ih _ _ w' x hsz' hfu' hcl' htl' hlaid' (by rw [hupd]; exact hS')
          · refine Oper.wp_mono ?_ (hop _ x w adm hSw)
            rintro a' w' ⟨h1, h2⟩
            exact ⟨_, h1, rfl, h2⟩
        · rw [hwa, hw x]
          simp only [if_true]
          refine .inl (Oper.wp_mono ?_ (upon_transfer (R := fun v w' => S (upd (fun j => listed.getD j false) i) (upx x i v) w') (b := frm ops a0 G x i) (by rw [hla.size, hfr.size]) he ?_))
          · rintro a' w' ⟨v, rfl, hS'⟩
            have yi : upx x i v i = v := by simp [upx]
            have yo : ∀ j, j ≠ i → upx x i v j = x j := fun j hj => by
              have e' : Nat.beq j i = false := Bool.eq_false_iff.2 fun h => hj (Nat.eq_of_beq_eq_true h)
              simp [upx, e']
            have hGy : ∀ j, listed.getD j false = true → ∀ p, ops[j]? = some p → G j (upx x i v) = G j x := fun j hj p hp => by
              refine gdep j p (lt_of_listed j hj) hp (upx x i v) x fun m hm => yo m fun e => ?_
              subst e
              rcases hm with hm | rfl
              · have := reach_listed (L := fun j => listed.getD j false = true) hcl ops.size j (fun q hq e he hb => hcl j hj q hq e he hb) m hm
                rw [this] at hun; cases hun
              · rw [hj] at hun; cases hun
            have hla' : Laid ops a0 G (upx x i v) (fun j => listed.getD j false = true) a := by
              refine ⟨hla.defers, hla.size, fun j t hj ht hs => ?_, hla.off⟩
              obtain ⟨p, hp, _⟩ := Option.bind_eq_some_iff.1 ht
              rw [hGy j hj p hp]
              exact hla.on j t hj ht hs
            have hlaid2 : Laid ops a0 G (upx x i v) (fun j => (listed.setIfInBounds i true).getD j false = true) (a.put o.dst v) := by
              have := hla'.put i hdist
              rw [hd, show G i (upx x i v) = v by rw [hg]; exact yi] at this
              have e : (fun j => listed.getD j false = true ∨ j = i) = fun j => (listed.setIfInBounds i true).getD j false = true := funext fun j => propext (hset j).symm
              rwa [e] at this
            exact ih _ _ w' (upx x i v) hsz' hfu' hcl' htl' hlaid2 (by rw [hupd]; exact hS')
          · refine Oper.wp_mono ?_ (hop _ x w adm hSw)
            rintro a' w' ⟨v, h1, h2⟩
            exact ⟨v, h1, h2⟩
      rw [show fuel + 1 + (ops.size - n) = (fuel + (ops.size - n)) + 1 by omega]
      refine ⟨fun hr => ?_, step⟩
      exfalso
      have hall : ∀ i, i < ops.size → listed.getD i false = true := by
        intro i
        induction i using Nat.strongRecOn with
        | _ i ihi =>
          intro hi
          by_cases hn : listed.getD i false = true
          · exact hn
          · have hli : i < listed.size := by omega
            have : i ∈ Region.ready .any ops listed := mem_ready.2 ⟨by
                simp only [Array.getD_eq_getD_getElem?, Array.getElem?_eq_getElem hli, Option.getD_some, Bool.not_eq_true] at hn ⊢
                exact hn, ops[i], Array.getElem?_eq_getElem hi, fun e he hb => ihi e.on (c2 i _ (Array.getElem?_eq_getElem hi) e he hb) (by have := c2 i _ (Array.getElem?_eq_getElem hi) e he hb; omega)⟩
            rw [hr] at this; simp at this
      have h1 := hall j0 (by omega)
      rw [getD_both hj0.2] at h1
      cases h1
  have hcount : (unlistedTo n (Array.replicate ops.size false)).length = n := by
    unfold unlistedTo
    rw [List.filter_eq_self.2, List.length_range]
    intro i hi
    have hi' : i < ops.size := by have := List.mem_range.1 hi; omega
    simp [hi']
  have := main n _ a0 w0 (fun _ => undef) (by simp) hcount (fun i hi => ?_) (fun t _ ht => getD_in (by simpa using ht) (getD_replicate_false _ _)) ⟨rfl, rfl, fun i t hi => ?_, fun _ _ => rfl⟩ (by rw [show (fun i => (Array.replicate ops.size false).getD i false) = fun _ => false from funext fun i => getD_replicate_false _ _]; exact hS)
  · rwa [show n + (ops.size - n) = ops.size by omega] at this
  all_goals
    exfalso
    rw [getD_replicate_false] at hi
    cases hi

theorem wp_region_rg {id : Nat} {a : Act} {w : World} (n : Nat) (S : (Nat → Bool) → (Nat → Value) → World → Prop) (hm : P.follows .mixedOrders = true) (hc : regOkTo n ops = true) (ht : n = ops.size ∨ tailOk ops n = true) (hS : S (fun _ => false) (fun _ => undef) w.drew)
    (h : RG P ops S (fun _ a w => wpList P ops Q (ops.toList.drop n) a w) 0 (ops.toList.take n) (fun _ => a)) : (Code.region id ops true).wp P Q a w :=
  wp_region_any hm (RG.any hc ht h hS)
end
end Go.Proofs.Ythffgbhphjkdeaa
namespace Go.Proofs.Ythffgbhphjkdeaa
open Go.RowKit
set_option linter.unusedVariables false
set_option linter.unusedSimpArgs false

/-- The number of an int. -/
def intOf : Value → Int
  | .int _ n => n
  | _ => 0
/-- What is known of the values of operations that have come up. -/
def Kall {ζ : Type} : List (Nat × (ζ → Value → Prop)) → (Nat → Bool) → (Nat → Value) → ζ → Prop
  | [], _, _, _ => True
  | e :: l, d, x, p => (d e.1 = true → e.2 p (x e.1)) ∧ Kall l d x p
def Sg {ζ : Type} (W : World) (R : Rg W) (Ld : (Nat → Bool) → ζ → List Blk) (Od : (Nat → Bool) → ζ → List Own) (Ed : (Nat → Bool) → ζ → List Res) (Ks : List (Nat × (ζ → Value → Prop))) (d : Nat → Bool) (x : Nat → Value) (w : World) : Prop :=
  ∃ p, Loc W R (Ld d p) (Od d p) (Ed d p) w ∧ Kall Ks d x p
theorem kall_none {ζ : Type} (x : Nat → Value) (p : ζ) : ∀ Ks : List (Nat × (ζ → Value → Prop)), Kall Ks (fun _ => false) x p
  | [] => trivial
  | _ :: l => ⟨fun h => (Bool.false_ne_true h).elim, kall_none x p l⟩
theorem kall_other {ζ : Type} {d : Nat → Bool} {x : Nat → Value} {p : ζ} {k : Nat} : ∀ {Ks : List (Nat × (ζ → Value → Prop))}, (Ks.all fun e => !Nat.beq e.1 k) = true → Kall Ks d x p → Kall Ks (upd d k) x p
  | [], _, _ => trivial
  | e :: l, h, hk => by
    rw [List.all_cons, Bool.and_eq_true] at h
    refine ⟨fun hd => hk.1 ?_, kall_other h.2 hk.2⟩
    have h1 : Nat.beq e.1 k = false := by simpa using h.1
    unfold upd at hd
    rw [h1] at hd
    simpa using hd
structure SXg {ζ : Type} (P : Program) (n : Nat) (W : World) (R : Rg W) (ops : Array Oper) (Ld : (Nat → Bool) → ζ → List Blk) (Od : (Nat → Bool) → ζ → List Own) (Ed : (Nat → Bool) → ζ → List Res) (Ks : List (Nat × (ζ → Value → Prop))) (k : Nat) (f : (Nat → Value) → List (Nat × Value)) (l : List Oper) (Q : Exit → Act → World → Prop) : Prop where
  run : ∀ F : (Nat → Value) → Act, (∀ x, Fr n (f x) (F x)) → RG P ops (Sg W R Ld Od Ed Ks) Q k l F
/-- What an operation leaves. -/
def PostG {ζ : Type} (W : World) (R : Rg W) (Ld : (Nat → Bool) → ζ → List Blk) (Od : (Nat → Bool) → ζ → List Own) (Ed : (Nat → Bool) → ζ → List Res) (Ks : List (Nat × (ζ → Value → Prop))) (d : Nat → Bool) (k : Nat) (x : Nat → Value) (dst : Option Tmp) (e : Exit) (a : Act) (w : World) : Prop :=
  e = .normal ∧ a.defers = [] ∧ ∃ (p : ζ) (v : Value), (∀ dd, dst = some dd → a.tmps[dd]? = some v) ∧ Loc W R (Ld (upd d k) p) (Od (upd d k) p) (Ed (upd d k) p) w ∧ Kall Ks (upd d k) (upx x k v) p

theorem wp_of_list {P : Program} {ops : Array Oper} {o : Oper} {a : Act} {w : World} {K : Act → World → Prop} (hd : a.defers = []) (hw : Region.wanted o (yielded ops a.tmps) = true)
    (h : wpList P ops (fun e a' w' => e = .normal ∧ a'.defers = [] ∧ K a' w') [o] a w) : o.wp P a w (fun a' w' => ∃ v, a' = a.put o.dst v ∧ K a' w') never := by
  unfold wpList at h
  rw [if_pos hw] at h
  rcases h with h | ⟨_, _, _, h, _⟩
  · unfold Oper.wp at *
    generalize (execOp a.eval o).run P w = r at *
    cases r with
    | ok n w' =>
      cases n <;> simp only [Oper.upon, wpList] at h ⊢
      case value v => exact ⟨v, rfl, h.2.2⟩
      case skip => exact ⟨undef, rfl, h.2.2⟩
      case defer d =>
        have h1 := h.2.1
        rw [put_defers'] at h1
        cases h1
      case enter f args =>
        refine Calls.mono h fun e w'' he => ?_
        cases e with
        | returned u => exact ⟨u, rfl, he.2.2⟩
        | panicked c => exact absurd he.1 (by simp)
        | outgrown => obtain ⟨_, _, hf, _⟩ := he; exact absurd hf (by simp)
      case row row args => exact Rows.mono h fun u w'' he => ⟨u, rfl, he.2.2⟩
    | halt x w' =>
      cases x <;> simp only [Oper.upon, never] at h ⊢
      exact absurd h.1 (by simp)
  · exact absurd h (by simp)

section
variable {ζ : Type} {P : Program} {n : Nat} {W : World} {R : Rg W} {L L' : List Blk} {O O' : List Own} {E E' : List Res} {Ld : (Nat → Bool) → ζ → List Blk} {Od : (Nat → Bool) → ζ → List Own} {Ed : (Nat → Bool) → ζ → List Res} {Ks : List (Nat × (ζ → Value → Prop))} {f : (Nat → Value) → List (Nat × Value)} {f0 : List (Nat × Value)} {Q : Exit → Act → World → Prop} {ops : Array Oper} {rest : List Oper} {k : Nat}
theorem SX.drawnG {id : Nat} {l : List Oper} (m : Nat) (Ld : (Nat → Bool) → ζ → List Blk) (Od : (Nat → Bool) → ζ → List Own) (Ed : (Nat → Bool) → ζ → List Res) (Ks : List (Nat × (ζ → Value → Prop))) (p0 : ζ) (hm : P.follows .mixedOrders = true) (hc : regOkTo m l.toArray = true) (ht : (Nat.beq m l.toArray.size || tailOk l.toArray m) = true)
    (h0 : Ld (fun _ => false) p0 = L ∧ Od (fun _ => false) p0 = O ∧ Ed (fun _ => false) p0 = E)
    (h : SXg P n W R l.toArray Ld Od Ed Ks 0 (fun _ => f0) (l.take m) (fun _ a w => wpList P l.toArray Q (l.drop m) a w)) : SX P n W R L O E f0 (.region id l.toArray true) Q := ⟨fun a w hf hl => by
  refine wp_region_rg m (Sg W R Ld Od Ed Ks) hm hc ?_ ⟨p0, ?_, kall_none _ _ _⟩ (h.run _ fun _ => hf)
  · rcases Bool.or_eq_true_iff.1 ht with h1 | h1
    · exact .inl (Nat.eq_of_beq_eq_true h1)
    · exact .inr h1
  · rw [h0.1, h0.2.1, h0.2.2]
    exact hl.keep ((Mod.refl _ w).drew)⟩
theorem SXg.v {o : Oper} {d : Nat} (us : List Nat) (v : (Nat → Value) → Value) (hus : (us.all fun i => (reach ops ops.size k).contains i) = true) (hv : ∀ x y : Nat → Value, (∀ i ∈ us, x i = y i) → v x = v y)
    (hr : ∀ dn x p, Adm ops dn k → Kall Ks dn x p → OpW P n W R (Ld dn p) (Od dn p) (Ed dn p) (f x) o (v x)) (hdst : o.dst = some d) (hw : ∀ x, wantO ops (f x) o = some true) (hd : Nat.blt d n = true)
    (hs : ∀ dn p, Ld (upd dn k) p = Ld dn p ∧ Od (upd dn k) p = Od dn p ∧ Ed (upd dn k) p = Ed dn p) (hk : (Ks.all fun e => !Nat.beq e.1 k) = true)
    (h : SXg P n W R ops Ld Od Ed Ks (k + 1) (fun x => (d, v x) :: f x) rest Q) : SXg P n W R ops Ld Od Ed Ks k f (o :: rest) Q := ⟨fun F hF =>
  RG.val us v hus hv (fun x => wanted_of (hF x) (hw x)) (fun dn x w ha ⟨p, hl, hK⟩ => wp_never ((hr dn x p ha hK).run _ w (hF x) hl) fun _ _ ⟨h1, h2⟩ => ⟨h1, p, by rw [(hs dn p).1, (hs dn p).2.1, (hs dn p).2.2]; exact hl.keep h2, kall_other hk hK⟩)
    (by rw [hdst]; exact h.run _ fun x => (hF x).put hd (v x))⟩
/-- A value that hangs on no other. -/
theorem SXg.v0 {o : Oper} {d : Nat} {v : Value} (hr : ∀ dn x p, Adm ops dn k → Kall Ks dn x p → OpW P n W R (Ld dn p) (Od dn p) (Ed dn p) (f x) o v) (hdst : o.dst = some d) (hw : ∀ x, wantO ops (f x) o = some true) (hd : Nat.blt d n = true)
    (hs : ∀ dn p, Ld (upd dn k) p = Ld dn p ∧ Od (upd dn k) p = Od dn p ∧ Ed (upd dn k) p = Ed dn p) (hk : (Ks.all fun e => !Nat.beq e.1 k) = true)
    (h : SXg P n W R ops Ld Od Ed Ks (k + 1) (fun x => (d, v) :: f x) rest Q) : SXg P n W R ops Ld Od Ed Ks k f (o :: rest) Q :=
  SXg.v [] (fun _ => v) rfl (fun _ _ _ => rfl) hr hdst hw hd hs hk h
theorem SXg.no {o : Oper} {d : Nat} (hw : ∀ x, wantO ops (f x) o = some false) (hdst : o.dst = some d) (hd : Nat.blt d n = true)
    (hs : ∀ dn p, Ld (upd dn k) p = Ld dn p ∧ Od (upd dn k) p = Od dn p ∧ Ed (upd dn k) p = Ed dn p) (hk : (Ks.all fun e => !Nat.beq e.1 k) = true)
    (h : SXg P n W R ops Ld Od Ed Ks (k + 1) (fun x => (d, undef) :: f x) rest Q) : SXg P n W R ops Ld Od Ed Ks k f (o :: rest) Q := ⟨fun F hF =>
  RG.skip (fun x => wanted_of (hF x) (hw x)) (fun dn x w ⟨p, hl, hK⟩ => ⟨p, by rw [(hs dn p).1, (hs dn p).2.1, (hs dn p).2.2]; exact hl, kall_other hk hK⟩) (by rw [hdst]; exact h.run _ fun x => (hF x).put hd undef)⟩
/-- Any operation, by its rule outside regions. -/
theorem SXg.l {o : Oper} {d : Nat} (hdst : o.dst = some d) (hw : ∀ x, wantO ops (f x) o = some true) (hd : Nat.blt d n = true)
    (hr : ∀ dn x p, Adm ops dn k → Kall Ks dn x p → SXl P n W R ops (Ld dn p) (Od dn p) (Ed dn p) (f x) [o] (PostG W R Ld Od Ed Ks dn k x (some d)))
    (h : SXg P n W R ops Ld Od Ed Ks (k + 1) (fun x => (d, x k) :: f x) rest Q) : SXg P n W R ops Ld Od Ed Ks k f (o :: rest) Q := ⟨fun F hF =>
  RG.new (fun x => wanted_of (hF x) (hw x)) (fun dn x w ha ⟨p, hl, hK⟩ => by
    have h1 := wp_of_list (hF x).defers (wanted_of (hF x) (hw x)) ((hr dn x p ha hK).run _ w (hF x) hl)
    refine Oper.wp_mono ?_ h1
    rintro a' w' ⟨v, rfl, p', v', hv, h2, h3⟩
    have e := hv d rfl
    rw [hdst] at e
    rw [put_at _ d v (Nat.lt_of_lt_of_le (by simpa using hd) (hF x).size)] at e
    obtain rfl := Option.some.inj e
    exact ⟨v, rfl, p', h2, h3⟩) (by rw [hdst]; exact h.run _ fun x => (hF x).put hd _)⟩
/-- An operation that nobody takes a value from. -/
theorem SXg.s {o : Oper} (hdst : o.dst = none) (hw : ∀ x, wantO ops (f x) o = some true)
    (hr : ∀ dn x p, Adm ops dn k → Kall Ks dn x p → SXl P n W R ops (Ld dn p) (Od dn p) (Ed dn p) (f x) [o] (PostG W R Ld Od Ed Ks dn k x none)) (hk : (Ks.all fun e => !Nat.beq e.1 k) = true)
    (h : SXg P n W R ops Ld Od Ed Ks (k + 1) f rest Q) : SXg P n W R ops Ld Od Ed Ks k f (o :: rest) Q := ⟨fun F hF =>
  RG.new (fun x => wanted_of (hF x) (hw x)) (fun dn x w ha ⟨p, hl, hK⟩ => by
    have h1 := wp_of_list (hF x).defers (wanted_of (hF x) (hw x)) ((hr dn x p ha hK).run _ w (hF x) hl)
    refine Oper.wp_mono ?_ h1
    rintro a' w' ⟨v, rfl, p', v', _, h2, h3⟩
    refine ⟨v, rfl, p', h2, ?_⟩
    have other : ∀ (Ks : List (Nat × (ζ → Value → Prop))) (v v' : Value), (Ks.all fun e => !Nat.beq e.1 k) = true → Kall Ks (upd dn k) (upx x k v) p' → Kall Ks (upd dn k) (upx x k v') p' := by
      intro Ks v v'
      induction Ks with
      | nil => intro _ _; trivial
      | cons e l ih =>
        intro hk hK
        rw [List.all_cons, Bool.and_eq_true] at hk
        have h1 : Nat.beq e.1 k = false := by simpa using hk.1
        have e1 : ∀ v, upx x k v e.1 = x e.1 := fun v => by unfold upx; rw [h1]; rfl
        exact ⟨fun hd => by have := hK.1 hd; rw [e1] at this ⊢; exact this, ih hk.2 hK.2⟩
    exact other Ks v' v hk h3) (by rw [hdst]; exact h.run _ fun x => (hF x).puto _)⟩
theorem SQ.g {f' : List (Nat × Value)} {dn : Nat → Bool} {x : Nat → Value} {d : Nat} (p : ζ) (v : Value) (hv : look f' d = some v) (hL : ∀ w, Loc W R L O E w → Loc W R (Ld (upd dn k) p) (Od (upd dn k) p) (Ed (upd dn k) p) w) (hk : Kall Ks (upd dn k) (upx x k v) p) :
    SQ n W R L O E f' .normal (PostG W R Ld Od Ed Ks dn k x (some d)) := ⟨fun a w hf hl => ⟨rfl, hf.defers, p, v, fun dd hd => (Option.some.inj hd) ▸ hf.at_ _ _ hv, hL w hl, hk⟩⟩
theorem SQ.gs {f' : List (Nat × Value)} {dn : Nat → Bool} {x : Nat → Value} (p : ζ) (hL : ∀ w, Loc W R L O E w → Loc W R (Ld (upd dn k) p) (Od (upd dn k) p) (Ed (upd dn k) p) w) (hk : Kall Ks (upd dn k) (upx x k undef) p) :
    SQ n W R L O E f' .normal (PostG W R Ld Od Ed Ks dn k x none) := ⟨fun a w hf hl => ⟨rfl, hf.defers, p, undef, fun dd hd => (nomatch hd), hL w hl, hk⟩⟩
theorem SXg.nil (h : ∀ x p, Kall Ks (fun i => Nat.blt i k) x p → SQ n W R (Ld (fun i => Nat.blt i k) p) (Od (fun i => Nat.blt i k) p) (Ed (fun i => Nat.blt i k) p) (f x) .normal Q) : SXg P n W R ops Ld Od Ed Ks k f [] Q := ⟨fun F hF =>
  RG.done fun x w ⟨p, hl, hK⟩ => (h x p hK).run (F x) w (hF x) hl⟩
theorem SXg.nilW (h : ∀ x p, Kall Ks (fun i => Nat.blt i k) x p → SQ n W R (Ld (fun i => Nat.blt i k) p) (Od (fun i => Nat.blt i k) p) (Ed (fun i => Nat.blt i k) p) (f x) .normal Q) : SXg P n W R ops Ld Od Ed Ks k f [] (fun _ a w => wpList P ops Q [] a w) := ⟨fun F hF =>
  RG.done fun x w ⟨p, hl, hK⟩ => (h x p hK).run (F x) w (hF x) hl⟩
theorem SXg.tail (h : ∀ x p, Kall Ks (fun i => Nat.blt i k) x p → SXl P n W R ops (Ld (fun i => Nat.blt i k) p) (Od (fun i => Nat.blt i k) p) (Ed (fun i => Nat.blt i k) p) (f x) rest Q) : SXg P n W R ops Ld Od Ed Ks k f [] (fun _ a w => wpList P ops Q rest a w) := ⟨fun F hF =>
  RG.done fun x w ⟨p, hl, hK⟩ => (h x p hK).run (F x) w (hF x) hl⟩
end
end Go.Proofs.Ythffgbhphjkdeaa
namespace Go.Proofs.Ythffgbhphjkdeaa
open Go.RowKit
set_option linter.unusedVariables false
set_option linter.unusedSimpArgs false

theorem engIn_asked {x : Engine} {q : EngP} {R : Nat → Prop} {w : World} (h : EngineIn true R w (engL x q) x) : AskedSlice R w q.kb x.kept.asked ∧ x.kept.asked.length ≤ q.kd := by
  obtain ⟨t, k0, k1, f, c, e, _, ⟨ka, kc, kb, kd, ek, _, ha, hw⟩, _⟩ := h
  simp only [List.cons.injEq, and_true] at ek
  obtain ⟨rfl, rfl⟩ := ek
  simp only [engL, List.cons.injEq, Value.slice.injEq, true_and] at e
  obtain ⟨_, _, ⟨e1, e2⟩, _⟩ := e
  rw [e1, e2]
  exact ⟨ha, (hw rfl).2.2⟩
theorem askedC_len (x : Asked) : x.cells.length = 6 := rfl
theorem askedC_one (x : Asked) : ∀ u ∈ x.cells, u.oneCell' = true := fun u hu => by
  simp only [Asked.cells, Space.cells, List.mem_cons, List.not_mem_nil, or_false, List.cons_append, List.nil_append, List.mem_append] at hu
  rcases hu with rfl | rfl | rfl | rfl | rfl | rfl <;> rfl
set_option maxRecDepth 100000 in
set_option maxHeartbeats 8000000 in
theorem asksBetween_any (x y : Engine) (p q : EngP) (S : Nat → Prop) (w : World) (hx : x.kept.asked.length ≤ 1048576) (hy : y.kept.asked.length ≤ 1048576) (h : AskedSlice S w q.kb y.kept.asked) (hc : y.kept.asked.length ≤ q.kd) :
    Calls Try.prog 11 #[.agg (engL x p).toArray, .agg (engL y q).toArray] w (NewSlice 101 6 w (y.kept.asked.drop x.kept.asked.length).length ((y.kept.asked.drop x.kept.asked.length).map Asked.cells).flatten) := by
  refine calls_sx Try.func11 rfl rfl (fun a h1 h2 h3 => ((Fr.nil h1 h2).arg (h3 1 _ rfl)).arg (h3 0 _ rfl)) ?_
  refine SX.ownNil 101 6 ?_
  by_cases hlt : y.kept.asked.length < x.kept.asked.length
  · rw [List.drop_of_length_le (by omega)]
    repeat (first | refine SX.seq ?_ | refine SXl.nil ?_ | refine SX.region ?_ | refine SQ.thenNormal ?_ | refine SX.condT rfl ?_ | (refine l_move ?_; (refine SXl.v (OpW.move rfl) rfl ?_ ?_ ?_); rfl; rfl) | (refine l_assign ?_; (refine SXl.v (OpW.assign rfl) rfl ?_ ?_ ?_); rfl; rfl) | (refine l_len ?_; (refine SXl.v (OpW.len rfl) rfl ?_ ?_ ?_); rfl; rfl) | (refine l_lss ?_; (refine SXl.v (OpW.lssT rfl rfl (by omega)) rfl ?_ ?_ ?_); rfl; rfl) | refine SX.drawn (by kernel_rfl) (by kernel_rfl) ?_ | refine SXr.nil ?_ | (refine r_load ?_; (first | refine SXr.v (OpW.load 0 rfl rfl rfl) rfl ?_ ?_ ?_ | refine SXr.v (OpW.load 1 rfl rfl rfl) rfl ?_ ?_ ?_); rfl; rfl) | (refine r_fieldAddr ?_; (refine SXr.v (OpW.fieldAddr rfl) rfl ?_ ?_ ?_); rfl; rfl) | (refine r_assign ?_; (refine SXr.v (OpW.assign rfl) rfl ?_ ?_ ?_); rfl; rfl) | (refine l_box ?_; refine SXl.box ?_ ?_ rfl rfl (fun g => ?_); rfl; rfl) | refine SX.ret ?_ | refine SQ.thenRet ?_)
    refine SQ.body1 rfl rfl (fun w' hl => ⟨none, 0, rfl, World.ownsRow_nil _ _ _ _, hl.mod⟩)
  have hdl : y.kept.asked.length - x.kept.asked.length = (y.kept.asked.drop x.kept.asked.length).length := by rw [List.length_drop]
  repeat (first | refine SX.seq ?_ | refine SXl.nil ?_ | refine SX.region ?_ | refine SQ.thenNormal ?_ | refine SX.skip ?_ | refine SX.condF rfl ?_ | (refine l_slice ?_; (refine SXl.v ((OpW.sliceFromS rfl rfl (by omega))) rfl ?_ ?_ ?_); rfl; rfl) | (refine l_move ?_; (refine SXl.v (OpW.move rfl) rfl ?_ ?_ ?_); rfl; rfl) | (refine l_assign ?_; (refine SXl.v (OpW.assign rfl) rfl ?_ ?_ ?_); rfl; rfl) | (refine l_len ?_; (refine SXl.v (OpW.len rfl) rfl ?_ ?_ ?_); rfl; rfl) | (refine l_lss ?_; (refine SXl.v (OpW.lssF rfl rfl (by omega)) rfl ?_ ?_ ?_); rfl; rfl) | refine SX.drawn (by kernel_rfl) (by kernel_rfl) ?_ | refine SXr.nil ?_ | (refine r_load ?_; (first | refine SXr.v (OpW.load 0 rfl rfl rfl) rfl ?_ ?_ ?_ | refine SXr.v (OpW.load 1 rfl rfl rfl) rfl ?_ ?_ ?_); rfl; rfl) | (refine r_fieldAddr ?_; (refine SXr.v (OpW.fieldAddr rfl) rfl ?_ ?_ ?_); rfl; rfl) | (refine r_assign ?_; (refine SXr.v (OpW.assign rfl) rfl ?_ ?_ ?_); rfl; rfl) | (refine l_box ?_; refine SXl.box ?_ ?_ rfl rfl (fun g => ?_); rfl; rfl))
  refine l_append ?_
  refine SXl.appendS (cs := Asked.cells) 0 (y.kept.asked.drop x.kept.asked.length) rfl rfl rfl rfl rfl hdl askedC_len askedC_one (fun w hl => ⟨_, SliceAt.dropS (h.flatKeep hl.mod) hc _⟩) (by omega) (by omega) (fun a2 c2 => ?_)
  simp only [List.set_cons_zero, Nat.zero_add, List.nil_append]
  repeat (first | refine SXl.nil ?_ | refine SQ.thenNormal ?_ | (refine l_assign ?_; (refine SXl.v (OpW.assign rfl) rfl ?_ ?_ ?_); rfl; rfl) | refine SX.ret ?_)
  refine SQ.body1 rfl rfl (fun w' hl => ⟨a2, c2, rfl, (hl.own _ List.mem_cons_self).1, hl.mod⟩)
set_option maxRecDepth 100000 in
set_option maxHeartbeats 8000000 in
theorem sasksBetween_any (x y : Engine) (p q : EngP) (S : Nat → Prop) (w : World) (hx : x.kept.asked.length ≤ 1048576) (hy : y.kept.asked.length ≤ 1048576) (h : AskedSlice S w q.kb y.kept.asked) (hc : y.kept.asked.length ≤ q.kd) :
    Calls Try.prog 9 #[.agg (engL x p).toArray, .agg (engL y q).toArray] w (NewSlice 101 6 w (y.kept.asked.drop x.kept.asked.length).length ((y.kept.asked.drop x.kept.asked.length).map Asked.cells).flatten) := by
  refine calls_sx Try.func9 rfl rfl (fun a h1 h2 h3 => ((Fr.nil h1 h2).arg (h3 1 _ rfl)).arg (h3 0 _ rfl)) ?_
  by_cases hlt : y.kept.asked.length < x.kept.asked.length
  · rw [List.drop_of_length_le (by omega)]
    repeat (first | refine SX.seq ?_ | refine SXl.nil ?_ | refine SX.region ?_ | refine SQ.thenNormal ?_ | refine SX.condT rfl ?_ | (refine l_load ?_; (first | refine SXl.v (OpW.load 0 rfl rfl rfl) rfl ?_ ?_ ?_ | refine SXl.v (OpW.load 1 rfl rfl rfl) rfl ?_ ?_ ?_); rfl; rfl) | (refine l_fieldAddr ?_; (refine SXl.v (OpW.fieldAddr rfl) rfl ?_ ?_ ?_); rfl; rfl) | (refine l_move ?_; (refine SXl.v (OpW.move rfl) rfl ?_ ?_ ?_); rfl; rfl) | (refine l_assign ?_; (refine SXl.v (OpW.assign rfl) rfl ?_ ?_ ?_); rfl; rfl) | (refine l_len ?_; (refine SXl.v (OpW.len rfl) rfl ?_ ?_ ?_); rfl; rfl) | (refine l_gtr ?_; (refine SXl.v (OpW.gtrT rfl rfl (by omega)) rfl ?_ ?_ ?_); rfl; rfl) | (refine l_box ?_; refine SXl.box ?_ ?_ rfl rfl (fun g => ?_); rfl; rfl) | (refine l_buildSlice ?_; refine SXl.lit0R rfl rfl (fun _ h => h) (fun g => ?_)) | refine SX.ret ?_ | refine SQ.thenRet ?_)
    refine SQ.body1 rfl rfl (fun w' hl => ⟨_, _, rfl, (hl.own _ List.mem_cons_self).1, hl.mod⟩)
  have hdl : y.kept.asked.length - x.kept.asked.length = (y.kept.asked.drop x.kept.asked.length).length := by rw [List.length_drop]
  repeat (first | refine SX.seq ?_ | refine SXl.nil ?_ | refine SX.region ?_ | refine SQ.thenNormal ?_ | refine SX.skip ?_ | refine SX.condF rfl ?_ | (refine l_slice ?_; (refine SXl.v ((OpW.sliceFromS rfl rfl (by omega))) rfl ?_ ?_ ?_); rfl; rfl) | (refine l_load ?_; (first | refine SXl.v (OpW.load 0 rfl rfl rfl) rfl ?_ ?_ ?_ | refine SXl.v (OpW.load 1 rfl rfl rfl) rfl ?_ ?_ ?_); rfl; rfl) | (refine l_fieldAddr ?_; (refine SXl.v (OpW.fieldAddr rfl) rfl ?_ ?_ ?_); rfl; rfl) | (refine l_move ?_; (refine SXl.v (OpW.move rfl) rfl ?_ ?_ ?_); rfl; rfl) | (refine l_assign ?_; (refine SXl.v (OpW.assign rfl) rfl ?_ ?_ ?_); rfl; rfl) | (refine l_len ?_; (refine SXl.v (OpW.len rfl) rfl ?_ ?_ ?_); rfl; rfl) | (refine l_gtr ?_; (refine SXl.v (OpW.gtrF rfl rfl (by omega)) rfl ?_ ?_ ?_); rfl; rfl) | (refine l_box ?_; refine SXl.box ?_ ?_ rfl rfl (fun g => ?_); rfl; rfl) | (refine l_buildSlice ?_; refine SXl.lit0R rfl rfl (fun _ h => h) (fun g => ?_)))
  refine l_append ?_
  refine SXl.appendS (cs := Asked.cells) 0 (y.kept.asked.drop x.kept.asked.length) rfl rfl rfl rfl rfl hdl askedC_len askedC_one (fun w hl => ⟨_, SliceAt.dropS (h.flatKeep hl.mod) hc _⟩) (by omega) (by omega) (fun a2 c2 => ?_)
  simp only [List.set_cons_zero, Nat.zero_add, List.nil_append]
  repeat (first | refine SXl.nil ?_ | refine SQ.thenNormal ?_ | (refine l_assign ?_; (refine SXl.v (OpW.assign rfl) rfl ?_ ?_ ?_); rfl; rfl) | refine SX.ret ?_)
  refine SQ.body1 rfl rfl (fun w' hl => ⟨a2, c2, rfl, (hl.own _ List.mem_cons_self).1, hl.mod⟩)
/-- What was asked, marked. -/
def markedAsked (l : List Asked) (q : SlP) : Res where
  foot := fun k => (Value.slice q.a l.length q.c).ownBlock = some k
  says := fun w => l.length = 0 ∨ ∃ g N, q.a = some ⟨g, 0, none⟩ ∧ l.length * 6 ≤ N ∧ Filled g 101 N w (Asked.marks 1 l.length)
  stable := fun S w w' h hm hs => h.imp id fun ⟨g, N, h1, h2, h3⟩ => ⟨g, N, h1, h2, h3.mod hm (hs g (by rw [h1]; rfl))⟩
theorem markAsked_own (l : List Asked) (q : SlP) (w : World) (hl : l.length ≤ 1048576) (h : (ownRes Asked.cells 101 6 l q).says w) :
    Calls Try.prog 15 #[.slice q.a l.length q.c, .int .i64 1] w fun e w' => ∃ _x : Unit, e = .returned (.int .i64 (1 + l.length * 6)) ∧ True ∧ (markedAsked l q).says w' ∧ Mod (ownRes Asked.cells 101 6 l q).foot w w' := by
  rcases own_filled h with h0 | ⟨g, N, h1, h2, h3, h4⟩
  · refine (markAskedS_any l.length q.c q.a w.heap.size 0 w 1 (by omega) (by omega) (by omega) (.inl h0)).mono ?_
    rintro e w' ⟨he, hm, _⟩
    exact ⟨(), he, trivial, .inl h0, hm.mono fun k hk (e : k = w.heap.size) => by omega⟩
  · refine (markAskedS_any l.length q.c q.a g N w 1 (by omega) (by omega) (by omega) (.inr ⟨h1, h3, h4⟩)).mono ?_
    rintro e w' ⟨he, hm, hf⟩
    exact ⟨(), he, trivial, hf.imp id fun hf => ⟨g, N, h1, h3, hf⟩, hm.mono fun k _ (e : k = g) => by subst e; show (Value.slice q.a l.length q.c).ownBlock = some k; rw [h1]; rfl⟩
theorem heldAsked_own (l : List Asked) (q : SlP) (w : World) (hl : l.length ≤ 1048576) (h : (markedAsked l q).says w) :
    Calls Try.prog 16 #[.slice q.a l.length q.c, .int .i64 1] w fun e w' => e = .returned (.int .i64 (1 + l.length * 6)) ∧ Mod (fun _ => False) w w' := by
  rcases h with h0 | ⟨g, N, h1, h2, h3⟩
  · exact heldAskedS_any l.length q.c q.a 0 0 w 1 (by omega) (by omega) (by omega) (.inl h0)
  · exact heldAskedS_any l.length q.c q.a g N w 1 (by omega) (by omega) (by omega) (.inr ⟨h1, h2, h3⟩)
theorem markEngine_own2 (x : Engine) (q : EngP) (q0 : Int) (w : World) (h0 : 1 ≤ q0) (hq : q0 ≤ 7000000000000) (F : x.fits 1048576) (h : (engRes x q).says w) :
    Calls Try.prog 14 #[.agg (engL x q).toArray, .int .i64 q0] w fun e w' => ∃ p : Int, e = .returned (.int .i64 p) ∧ (q0 ≤ p ∧ p ≤ q0 + x.tree.length * 6000000 + x.kept.memos.length * 6000000 + x.kept.asked.length * 6 + x.frames.length * 5) ∧ deadRes.says w' ∧ Mod (engRes x q).foot w w' :=
  (markEngine_any x q0 _ _ w h0 hq F h).mono fun e w' ⟨p, he, h1, h2, hm, _⟩ => ⟨p, he, ⟨h1, h2⟩, trivial, hm⟩
end Go.Proofs.Ythffgbhphjkdeaa
