/-
  PROVED: contracts of functions and words on memory, several texts put together: what each says stands at its theorems. Conditions: as told there.
-/
import Derived.Test.YthffgbhphjkdeaaMGa
import Derived.Test.YthffgbhphjkdeaaProg
import Derived.Test.YthffgbhphjkdeaaChecked
import Derived.Deep.QuietTactic
import Derived.BigQuiet
import Derived.Outline
import Derived.WalkLawsBesides
import Derived.Laws.OwnMore
import Derived.Deep.Onto
import Derived.Shelf.GgSortMore.Stable
import Derived.Deep.RegionHeld3
import Derived.StillTailTactics
import Derived.ProofKit
set_option linter.unusedVariables false
set_option linter.unusedSimpArgs false
namespace Go.Proofs.Ythffgbhphjkdeaa

instance : TOne Try.prog 2 := ⟨⟨_, Try.underlying2, rfl⟩, by kernel_rfl⟩
instance : TEl Try.prog 2 1 8 (.int .i64 0) := ⟨by kernel_rfl, rfl, by decide⟩
instance : TZero Try.prog 2 [.int .i64 0] := ⟨.int .i64 0, by kernel_rfl, rfl⟩
instance : TOne Try.prog 3 := ⟨⟨_, Try.underlying3, rfl⟩, by kernel_rfl⟩
instance : TEl Try.prog 3 1 8 (.int .i64 0) := ⟨by kernel_rfl, rfl, by decide⟩
instance : TZero Try.prog 3 [.int .i64 0] := ⟨.int .i64 0, by kernel_rfl, rfl⟩
instance : TOne Try.prog 4 := ⟨⟨_, Try.underlying4, rfl⟩, by kernel_rfl⟩
instance : TBool Try.prog 4 := ⟨Try.underlying4⟩
instance : TEl Try.prog 4 1 1 (.bool false) := ⟨by kernel_rfl, rfl, by decide⟩
instance : TZero Try.prog 4 [.bool false] := ⟨.bool false, by kernel_rfl, rfl⟩
instance : TOne Try.prog 5 := ⟨⟨_, Try.underlying5, rfl⟩, by kernel_rfl⟩
instance : TEl Try.prog 5 1 1 (.int .u8 0) := ⟨by kernel_rfl, rfl, by decide⟩
instance : TZero Try.prog 5 [.int .u8 0] := ⟨.int .u8 0, by kernel_rfl, rfl⟩
instance : TOne Try.prog 6 := ⟨⟨_, Try.underlying6, rfl⟩, by kernel_rfl⟩
instance : TEl Try.prog 6 1 1 (.int .u8 0) := ⟨by kernel_rfl, rfl, by decide⟩
instance : TZero Try.prog 6 [.int .u8 0] := ⟨.int .u8 0, by kernel_rfl, rfl⟩
instance : TRow Try.prog 7 4 := ⟨⟨_, Try.underlying7, rfl⟩, by kernel_rfl⟩
instance : TFld Try.prog 7 0 0 := ⟨_, _, 0, Try.underlying7, rfl, rfl, by kernel_rfl⟩
instance : TFld Try.prog 7 1 1 := ⟨_, _, 0, Try.underlying7, rfl, rfl, by kernel_rfl⟩
instance : TFld Try.prog 7 2 2 := ⟨_, _, 0, Try.underlying7, rfl, rfl, by kernel_rfl⟩
instance : TFld Try.prog 7 3 3 := ⟨_, _, 0, Try.underlying7, rfl, rfl, by kernel_rfl⟩
instance : TEl Try.prog 7 4 24 (.agg #[.int .i64 0, .int .i64 0, .bool false, .int .u8 0]) := ⟨by kernel_rfl, rfl, by decide⟩
instance : TZero Try.prog 7 [.int .i64 0, .int .i64 0, .bool false, .int .u8 0] := ⟨.agg #[.int .i64 0, .int .i64 0, .bool false, .int .u8 0], by kernel_rfl, rfl⟩
instance : TRow Try.prog 8 4 := ⟨⟨_, Try.underlying8, rfl⟩, by kernel_rfl⟩
instance : TFld Try.prog 8 0 0 := ⟨_, _, 0, Try.underlying8, rfl, rfl, by kernel_rfl⟩
instance : TFld Try.prog 8 1 1 := ⟨_, _, 0, Try.underlying8, rfl, rfl, by kernel_rfl⟩
instance : TFld Try.prog 8 2 2 := ⟨_, _, 0, Try.underlying8, rfl, rfl, by kernel_rfl⟩
instance : TFld Try.prog 8 3 3 := ⟨_, _, 0, Try.underlying8, rfl, rfl, by kernel_rfl⟩
instance : TEl Try.prog 8 4 24 (.agg #[.int .i64 0, .int .i64 0, .bool false, .int .u8 0]) := ⟨by kernel_rfl, rfl, by decide⟩
instance : TZero Try.prog 8 [.int .i64 0, .int .i64 0, .bool false, .int .u8 0] := ⟨.agg #[.int .i64 0, .int .i64 0, .bool false, .int .u8 0], by kernel_rfl, rfl⟩
instance : TOne Try.prog 9 := ⟨⟨_, Try.underlying9, rfl⟩, by kernel_rfl⟩
instance : TStr Try.prog 9 := ⟨Try.underlying9⟩
instance : TEl Try.prog 9 1 16 (.string ⟨#[]⟩) := ⟨by kernel_rfl, rfl, by decide⟩
instance : TZero Try.prog 9 [.string ⟨#[]⟩] := ⟨.string ⟨#[]⟩, by kernel_rfl, rfl⟩
instance : TOne Try.prog 10 := ⟨⟨_, Try.underlying10, rfl⟩, by kernel_rfl⟩
instance : TStr Try.prog 10 := ⟨Try.underlying10⟩
instance : TEl Try.prog 10 1 16 (.string ⟨#[]⟩) := ⟨by kernel_rfl, rfl, by decide⟩
instance : TZero Try.prog 10 [.string ⟨#[]⟩] := ⟨.string ⟨#[]⟩, by kernel_rfl, rfl⟩
instance : TOne Try.prog 11 := ⟨⟨_, Try.underlying11, rfl⟩, by kernel_rfl⟩
instance : TStr Try.prog 11 := ⟨Try.underlying11⟩
instance : TEl Try.prog 11 1 16 (.string ⟨#[]⟩) := ⟨by kernel_rfl, rfl, by decide⟩
instance : TZero Try.prog 11 [.string ⟨#[]⟩] := ⟨.string ⟨#[]⟩, by kernel_rfl, rfl⟩
instance : TOne Try.prog 12 := ⟨⟨_, Try.underlying12, rfl⟩, by kernel_rfl⟩
instance : TEl Try.prog 12 1 8 (.int .u64 0) := ⟨by kernel_rfl, rfl, by decide⟩
instance : TZero Try.prog 12 [.int .u64 0] := ⟨.int .u64 0, by kernel_rfl, rfl⟩
instance : TRow Try.prog 13 2 := ⟨⟨_, Try.underlying13, rfl⟩, by kernel_rfl⟩
instance : TFld Try.prog 13 0 0 := ⟨_, _, 0, Try.underlying13, rfl, rfl, by kernel_rfl⟩
instance : TFld Try.prog 13 1 1 := ⟨_, _, 0, Try.underlying13, rfl, rfl, by kernel_rfl⟩
instance : TEl Try.prog 13 2 24 (.agg #[.string ⟨#[]⟩, .int .u64 0]) := ⟨by kernel_rfl, rfl, by decide⟩
instance : TZero Try.prog 13 [.string ⟨#[]⟩, .int .u64 0] := ⟨.agg #[.string ⟨#[]⟩, .int .u64 0], by kernel_rfl, rfl⟩
instance : TRow Try.prog 14 2 := ⟨⟨_, Try.underlying14, rfl⟩, by kernel_rfl⟩
instance : TFld Try.prog 14 0 0 := ⟨_, _, 0, Try.underlying14, rfl, rfl, by kernel_rfl⟩
instance : TFld Try.prog 14 1 1 := ⟨_, _, 0, Try.underlying14, rfl, rfl, by kernel_rfl⟩
instance : TEl Try.prog 14 2 24 (.agg #[.string ⟨#[]⟩, .int .u64 0]) := ⟨by kernel_rfl, rfl, by decide⟩
instance : TZero Try.prog 14 [.string ⟨#[]⟩, .int .u64 0] := ⟨.agg #[.string ⟨#[]⟩, .int .u64 0], by kernel_rfl, rfl⟩
instance : TOne Try.prog 15 := ⟨⟨_, Try.underlying15, rfl⟩, by kernel_rfl⟩
instance : TPtr Try.prog 15 := ⟨⟨_, Try.underlying15⟩⟩
instance : TEl Try.prog 15 1 8 (.pointer none) := ⟨by kernel_rfl, rfl, by decide⟩
instance : TZero Try.prog 15 [.pointer none] := ⟨.pointer none, by kernel_rfl, rfl⟩
instance : TOne Try.prog 16 := ⟨⟨_, Try.underlying16, rfl⟩, by kernel_rfl⟩
instance : TPtr Try.prog 16 := ⟨⟨_, Try.underlying16⟩⟩
instance : TEl Try.prog 16 1 8 (.pointer none) := ⟨by kernel_rfl, rfl, by decide⟩
instance : TZero Try.prog 16 [.pointer none] := ⟨.pointer none, by kernel_rfl, rfl⟩
instance : TOne Try.prog 17 := ⟨⟨_, Try.underlying17, rfl⟩, by kernel_rfl⟩
instance : TPtr Try.prog 17 := ⟨⟨_, Try.underlying17⟩⟩
instance : TEl Try.prog 17 1 8 (.pointer none) := ⟨by kernel_rfl, rfl, by decide⟩
instance : TZero Try.prog 17 [.pointer none] := ⟨.pointer none, by kernel_rfl, rfl⟩
instance : TRow Try.prog 18 1 := ⟨⟨_, Try.underlying18, rfl⟩, by kernel_rfl⟩
instance : TFld Try.prog 18 0 0 := ⟨_, _, 0, Try.underlying18, rfl, rfl, by kernel_rfl⟩
instance : TEl Try.prog 18 1 8 (.agg #[.pointer none]) := ⟨by kernel_rfl, rfl, by decide⟩
instance : TZero Try.prog 18 [.pointer none] := ⟨.agg #[.pointer none], by kernel_rfl, rfl⟩
instance : TRow Try.prog 19 1 := ⟨⟨_, Try.underlying19, rfl⟩, by kernel_rfl⟩
instance : TFld Try.prog 19 0 0 := ⟨_, _, 0, Try.underlying19, rfl, rfl, by kernel_rfl⟩
instance : TEl Try.prog 19 1 8 (.agg #[.pointer none]) := ⟨by kernel_rfl, rfl, by decide⟩
instance : TZero Try.prog 19 [.pointer none] := ⟨.agg #[.pointer none], by kernel_rfl, rfl⟩
instance : TOne Try.prog 21 := ⟨⟨_, Try.underlying21, rfl⟩, by kernel_rfl⟩
instance : TEl Try.prog 21 1 4 (.int .i32 0) := ⟨by kernel_rfl, rfl, by decide⟩
instance : TZero Try.prog 21 [.int .i32 0] := ⟨.int .i32 0, by kernel_rfl, rfl⟩
instance : TOne Try.prog 22 := ⟨⟨_, Try.underlying22, rfl⟩, by kernel_rfl⟩
instance : TSl Try.prog 22 167 64 := ⟨Try.underlying22, by kernel_rfl⟩
instance : TEl Try.prog 22 1 24 (.slice none 0 0) := ⟨by kernel_rfl, rfl, by decide⟩
instance : TZero Try.prog 22 [.slice none 0 0] := ⟨.slice none 0 0, by kernel_rfl, rfl⟩
instance : TRow Try.prog 23 1 := ⟨⟨_, Try.underlying23, rfl⟩, by kernel_rfl⟩
instance : TFld Try.prog 23 0 0 := ⟨_, _, 0, Try.underlying23, rfl, rfl, by kernel_rfl⟩
instance : TEl Try.prog 23 1 24 (.agg #[.slice none 0 0]) := ⟨by kernel_rfl, rfl, by decide⟩
instance : TZero Try.prog 23 [.slice none 0 0] := ⟨.agg #[.slice none 0 0], by kernel_rfl, rfl⟩
instance : TRow Try.prog 24 1 := ⟨⟨_, Try.underlying24, rfl⟩, by kernel_rfl⟩
instance : TFld Try.prog 24 0 0 := ⟨_, _, 0, Try.underlying24, rfl, rfl, by kernel_rfl⟩
instance : TEl Try.prog 24 1 24 (.agg #[.slice none 0 0]) := ⟨by kernel_rfl, rfl, by decide⟩
instance : TZero Try.prog 24 [.slice none 0 0] := ⟨.agg #[.slice none 0 0], by kernel_rfl, rfl⟩
instance : TOne Try.prog 25 := ⟨⟨_, Try.underlying25, rfl⟩, by kernel_rfl⟩
instance : TSl Try.prog 25 173 10 := ⟨Try.underlying25, by kernel_rfl⟩
instance : TEl Try.prog 25 1 24 (.slice none 0 0) := ⟨by kernel_rfl, rfl, by decide⟩
instance : TZero Try.prog 25 [.slice none 0 0] := ⟨.slice none 0 0, by kernel_rfl, rfl⟩
instance : TOne Try.prog 26 := ⟨⟨_, Try.underlying26, rfl⟩, by kernel_rfl⟩
instance : TSl Try.prog 26 182 6 := ⟨Try.underlying26, by kernel_rfl⟩
instance : TEl Try.prog 26 1 24 (.slice none 0 0) := ⟨by kernel_rfl, rfl, by decide⟩
instance : TZero Try.prog 26 [.slice none 0 0] := ⟨.slice none 0 0, by kernel_rfl, rfl⟩
instance : TRow Try.prog 27 2 := ⟨⟨_, Try.underlying27, rfl⟩, by kernel_rfl⟩
instance : TFld Try.prog 27 0 0 := ⟨_, _, 0, Try.underlying27, rfl, rfl, by kernel_rfl⟩
instance : TFld Try.prog 27 1 1 := ⟨_, _, 0, Try.underlying27, rfl, rfl, by kernel_rfl⟩
instance : TEl Try.prog 27 2 48 (.agg #[.slice none 0 0, .slice none 0 0]) := ⟨by kernel_rfl, rfl, by decide⟩
instance : TZero Try.prog 27 [.slice none 0 0, .slice none 0 0] := ⟨.agg #[.slice none 0 0, .slice none 0 0], by kernel_rfl, rfl⟩
instance : TRow Try.prog 28 2 := ⟨⟨_, Try.underlying28, rfl⟩, by kernel_rfl⟩
instance : TFld Try.prog 28 0 0 := ⟨_, _, 0, Try.underlying28, rfl, rfl, by kernel_rfl⟩
instance : TFld Try.prog 28 1 1 := ⟨_, _, 0, Try.underlying28, rfl, rfl, by kernel_rfl⟩
instance : TEl Try.prog 28 2 48 (.agg #[.slice none 0 0, .slice none 0 0]) := ⟨by kernel_rfl, rfl, by decide⟩
instance : TZero Try.prog 28 [.slice none 0 0, .slice none 0 0] := ⟨.agg #[.slice none 0 0, .slice none 0 0], by kernel_rfl, rfl⟩
instance : TOne Try.prog 29 := ⟨⟨_, Try.underlying29, rfl⟩, by kernel_rfl⟩
instance : TSl Try.prog 29 134 5 := ⟨Try.underlying29, by kernel_rfl⟩
instance : TEl Try.prog 29 1 24 (.slice none 0 0) := ⟨by kernel_rfl, rfl, by decide⟩
instance : TZero Try.prog 29 [.slice none 0 0] := ⟨.slice none 0 0, by kernel_rfl, rfl⟩
instance : TRow Try.prog 30 8 := ⟨⟨_, Try.underlying30, rfl⟩, by kernel_rfl⟩
instance : TFld Try.prog 30 0 0 := ⟨_, _, 0, Try.underlying30, rfl, rfl, by kernel_rfl⟩
instance : TFld Try.prog 30 1 1 := ⟨_, _, 1, Try.underlying30, rfl, rfl, by kernel_rfl⟩
instance : TFld Try.prog 30 2 3 := ⟨_, _, 0, Try.underlying30, rfl, rfl, by kernel_rfl⟩
instance : TFld Try.prog 30 3 4 := ⟨_, _, 0, Try.underlying30, rfl, rfl, by kernel_rfl⟩
instance : TFld Try.prog 30 4 5 := ⟨_, _, 0, Try.underlying30, rfl, rfl, by kernel_rfl⟩
instance : TFld Try.prog 30 5 6 := ⟨_, _, 0, Try.underlying30, rfl, rfl, by kernel_rfl⟩
instance : TFld Try.prog 30 6 7 := ⟨_, _, 0, Try.underlying30, rfl, rfl, by kernel_rfl⟩
instance : TEl Try.prog 30 8 128 (.agg #[.slice none 0 0, .slice none 0 0, .slice none 0 0, .slice none 0 0, .int .i64 0, .int .i64 0, .int .i64 0, .bool false]) := ⟨by kernel_rfl, rfl, by decide⟩
instance : TZero Try.prog 30 [.slice none 0 0, .slice none 0 0, .slice none 0 0, .slice none 0 0, .int .i64 0, .int .i64 0, .int .i64 0, .bool false] := ⟨.agg #[.slice none 0 0, .slice none 0 0, .slice none 0 0, .slice none 0 0, .int .i64 0, .int .i64 0, .int .i64 0, .bool false], by kernel_rfl, rfl⟩
instance : TRow Try.prog 31 8 := ⟨⟨_, Try.underlying31, rfl⟩, by kernel_rfl⟩
instance : TFld Try.prog 31 0 0 := ⟨_, _, 0, Try.underlying31, rfl, rfl, by kernel_rfl⟩
instance : TFld Try.prog 31 1 1 := ⟨_, _, 1, Try.underlying31, rfl, rfl, by kernel_rfl⟩
instance : TFld Try.prog 31 2 3 := ⟨_, _, 0, Try.underlying31, rfl, rfl, by kernel_rfl⟩
instance : TFld Try.prog 31 3 4 := ⟨_, _, 0, Try.underlying31, rfl, rfl, by kernel_rfl⟩
instance : TFld Try.prog 31 4 5 := ⟨_, _, 0, Try.underlying31, rfl, rfl, by kernel_rfl⟩
instance : TFld Try.prog 31 5 6 := ⟨_, _, 0, Try.underlying31, rfl, rfl, by kernel_rfl⟩
instance : TFld Try.prog 31 6 7 := ⟨_, _, 0, Try.underlying31, rfl, rfl, by kernel_rfl⟩
instance : TEl Try.prog 31 8 128 (.agg #[.slice none 0 0, .slice none 0 0, .slice none 0 0, .slice none 0 0, .int .i64 0, .int .i64 0, .int .i64 0, .bool false]) := ⟨by kernel_rfl, rfl, by decide⟩
instance : TZero Try.prog 31 [.slice none 0 0, .slice none 0 0, .slice none 0 0, .slice none 0 0, .int .i64 0, .int .i64 0, .int .i64 0, .bool false] := ⟨.agg #[.slice none 0 0, .slice none 0 0, .slice none 0 0, .slice none 0 0, .int .i64 0, .int .i64 0, .int .i64 0, .bool false], by kernel_rfl, rfl⟩
instance : TOne Try.prog 33 := ⟨⟨_, Try.underlying33, rfl⟩, by kernel_rfl⟩
instance : TSl Try.prog 33 101 6 := ⟨Try.underlying33, by kernel_rfl⟩
instance : TEl Try.prog 33 1 24 (.slice none 0 0) := ⟨by kernel_rfl, rfl, by decide⟩
instance : TZero Try.prog 33 [.slice none 0 0] := ⟨.slice none 0 0, by kernel_rfl, rfl⟩
instance : TOne Try.prog 35 := ⟨⟨_, Try.underlying35, rfl⟩, by kernel_rfl⟩
instance : TSl Try.prog 35 86 64 := ⟨Try.underlying35, by kernel_rfl⟩
instance : TEl Try.prog 35 1 24 (.slice none 0 0) := ⟨by kernel_rfl, rfl, by decide⟩
instance : TZero Try.prog 35 [.slice none 0 0] := ⟨.slice none 0 0, by kernel_rfl, rfl⟩
instance : TRow Try.prog 36 1 := ⟨⟨_, Try.underlying36, rfl⟩, by kernel_rfl⟩
instance : TFld Try.prog 36 0 0 := ⟨_, _, 0, Try.underlying36, rfl, rfl, by kernel_rfl⟩
instance : TEl Try.prog 36 1 24 (.agg #[.slice none 0 0]) := ⟨by kernel_rfl, rfl, by decide⟩
instance : TZero Try.prog 36 [.slice none 0 0] := ⟨.agg #[.slice none 0 0], by kernel_rfl, rfl⟩
instance : TRow Try.prog 37 1 := ⟨⟨_, Try.underlying37, rfl⟩, by kernel_rfl⟩
instance : TFld Try.prog 37 0 0 := ⟨_, _, 0, Try.underlying37, rfl, rfl, by kernel_rfl⟩
instance : TEl Try.prog 37 1 24 (.agg #[.slice none 0 0]) := ⟨by kernel_rfl, rfl, by decide⟩
instance : TZero Try.prog 37 [.slice none 0 0] := ⟨.agg #[.slice none 0 0], by kernel_rfl, rfl⟩
instance : TOne Try.prog 38 := ⟨⟨_, Try.underlying38, rfl⟩, by kernel_rfl⟩
instance : TSl Try.prog 38 178 10 := ⟨Try.underlying38, by kernel_rfl⟩
instance : TEl Try.prog 38 1 24 (.slice none 0 0) := ⟨by kernel_rfl, rfl, by decide⟩
instance : TZero Try.prog 38 [.slice none 0 0] := ⟨.slice none 0 0, by kernel_rfl, rfl⟩
instance : TRow Try.prog 39 2 := ⟨⟨_, Try.underlying39, rfl⟩, by kernel_rfl⟩
instance : TFld Try.prog 39 0 0 := ⟨_, _, 0, Try.underlying39, rfl, rfl, by kernel_rfl⟩
instance : TFld Try.prog 39 1 1 := ⟨_, _, 0, Try.underlying39, rfl, rfl, by kernel_rfl⟩
instance : TEl Try.prog 39 2 48 (.agg #[.slice none 0 0, .slice none 0 0]) := ⟨by kernel_rfl, rfl, by decide⟩
instance : TZero Try.prog 39 [.slice none 0 0, .slice none 0 0] := ⟨.agg #[.slice none 0 0, .slice none 0 0], by kernel_rfl, rfl⟩
instance : TRow Try.prog 40 2 := ⟨⟨_, Try.underlying40, rfl⟩, by kernel_rfl⟩
instance : TFld Try.prog 40 0 0 := ⟨_, _, 0, Try.underlying40, rfl, rfl, by kernel_rfl⟩
instance : TFld Try.prog 40 1 1 := ⟨_, _, 0, Try.underlying40, rfl, rfl, by kernel_rfl⟩
instance : TEl Try.prog 40 2 48 (.agg #[.slice none 0 0, .slice none 0 0]) := ⟨by kernel_rfl, rfl, by decide⟩
instance : TZero Try.prog 40 [.slice none 0 0, .slice none 0 0] := ⟨.agg #[.slice none 0 0, .slice none 0 0], by kernel_rfl, rfl⟩
instance : TOne Try.prog 41 := ⟨⟨_, Try.underlying41, rfl⟩, by kernel_rfl⟩
instance : TSl Try.prog 41 132 5 := ⟨Try.underlying41, by kernel_rfl⟩
instance : TEl Try.prog 41 1 24 (.slice none 0 0) := ⟨by kernel_rfl, rfl, by decide⟩
instance : TZero Try.prog 41 [.slice none 0 0] := ⟨.slice none 0 0, by kernel_rfl, rfl⟩
instance : TRow Try.prog 42 8 := ⟨⟨_, Try.underlying42, rfl⟩, by kernel_rfl⟩
instance : TFld Try.prog 42 0 0 := ⟨_, _, 0, Try.underlying42, rfl, rfl, by kernel_rfl⟩
instance : TFld Try.prog 42 1 1 := ⟨_, _, 1, Try.underlying42, rfl, rfl, by kernel_rfl⟩
instance : TFld Try.prog 42 2 3 := ⟨_, _, 0, Try.underlying42, rfl, rfl, by kernel_rfl⟩
instance : TFld Try.prog 42 3 4 := ⟨_, _, 0, Try.underlying42, rfl, rfl, by kernel_rfl⟩
instance : TFld Try.prog 42 4 5 := ⟨_, _, 0, Try.underlying42, rfl, rfl, by kernel_rfl⟩
instance : TFld Try.prog 42 5 6 := ⟨_, _, 0, Try.underlying42, rfl, rfl, by kernel_rfl⟩
instance : TFld Try.prog 42 6 7 := ⟨_, _, 0, Try.underlying42, rfl, rfl, by kernel_rfl⟩
instance : TEl Try.prog 42 8 128 (.agg #[.slice none 0 0, .slice none 0 0, .slice none 0 0, .slice none 0 0, .int .i64 0, .int .i64 0, .int .i64 0, .bool false]) := ⟨by kernel_rfl, rfl, by decide⟩
instance : TZero Try.prog 42 [.slice none 0 0, .slice none 0 0, .slice none 0 0, .slice none 0 0, .int .i64 0, .int .i64 0, .int .i64 0, .bool false] := ⟨.agg #[.slice none 0 0, .slice none 0 0, .slice none 0 0, .slice none 0 0, .int .i64 0, .int .i64 0, .int .i64 0, .bool false], by kernel_rfl, rfl⟩
instance : TRow Try.prog 43 8 := ⟨⟨_, Try.underlying43, rfl⟩, by kernel_rfl⟩
instance : TFld Try.prog 43 0 0 := ⟨_, _, 0, Try.underlying43, rfl, rfl, by kernel_rfl⟩
instance : TFld Try.prog 43 1 1 := ⟨_, _, 1, Try.underlying43, rfl, rfl, by kernel_rfl⟩
instance : TFld Try.prog 43 2 3 := ⟨_, _, 0, Try.underlying43, rfl, rfl, by kernel_rfl⟩
instance : TFld Try.prog 43 3 4 := ⟨_, _, 0, Try.underlying43, rfl, rfl, by kernel_rfl⟩
instance : TFld Try.prog 43 4 5 := ⟨_, _, 0, Try.underlying43, rfl, rfl, by kernel_rfl⟩
instance : TFld Try.prog 43 5 6 := ⟨_, _, 0, Try.underlying43, rfl, rfl, by kernel_rfl⟩
instance : TFld Try.prog 43 6 7 := ⟨_, _, 0, Try.underlying43, rfl, rfl, by kernel_rfl⟩
instance : TEl Try.prog 43 8 128 (.agg #[.slice none 0 0, .slice none 0 0, .slice none 0 0, .slice none 0 0, .int .i64 0, .int .i64 0, .int .i64 0, .bool false]) := ⟨by kernel_rfl, rfl, by decide⟩
instance : TZero Try.prog 43 [.slice none 0 0, .slice none 0 0, .slice none 0 0, .slice none 0 0, .int .i64 0, .int .i64 0, .int .i64 0, .bool false] := ⟨.agg #[.slice none 0 0, .slice none 0 0, .slice none 0 0, .slice none 0 0, .int .i64 0, .int .i64 0, .int .i64 0, .bool false], by kernel_rfl, rfl⟩
instance : TOne Try.prog 50 := ⟨⟨_, Try.underlying50, rfl⟩, by kernel_rfl⟩
instance : TSl Try.prog 50 5 1 := ⟨Try.underlying50, by kernel_rfl⟩
instance : TEl Try.prog 50 1 24 (.slice none 0 0) := ⟨by kernel_rfl, rfl, by decide⟩
instance : TZero Try.prog 50 [.slice none 0 0] := ⟨.slice none 0 0, by kernel_rfl, rfl⟩
instance : TRow Try.prog 59 2 := ⟨⟨_, Try.underlying59, rfl⟩, by kernel_rfl⟩
instance : TFld Try.prog 59 0 0 := ⟨_, _, 0, Try.underlying59, rfl, rfl, by kernel_rfl⟩
instance : TFld Try.prog 59 1 1 := ⟨_, _, 0, Try.underlying59, rfl, rfl, by kernel_rfl⟩
instance : TEq Try.prog 59 [0, 0] := ⟨by kernel_rfl, by kernel_rfl, _, Try.underlying59⟩
instance : TEl Try.prog 59 2 16 (.agg #[.int .i64 0, .int .i64 0]) := ⟨by kernel_rfl, rfl, by decide⟩
instance : TZero Try.prog 59 [.int .i64 0, .int .i64 0] := ⟨.agg #[.int .i64 0, .int .i64 0], by kernel_rfl, rfl⟩
instance : TRow Try.prog 60 2 := ⟨⟨_, Try.underlying60, rfl⟩, by kernel_rfl⟩
instance : TFld Try.prog 60 0 0 := ⟨_, _, 0, Try.underlying60, rfl, rfl, by kernel_rfl⟩
instance : TFld Try.prog 60 1 1 := ⟨_, _, 0, Try.underlying60, rfl, rfl, by kernel_rfl⟩
instance : TEq Try.prog 60 [0, 0] := ⟨by kernel_rfl, by kernel_rfl, _, Try.underlying60⟩
instance : TEl Try.prog 60 2 16 (.agg #[.int .i64 0, .int .i64 0]) := ⟨by kernel_rfl, rfl, by decide⟩
instance : TZero Try.prog 60 [.int .i64 0, .int .i64 0] := ⟨.agg #[.int .i64 0, .int .i64 0], by kernel_rfl, rfl⟩
instance : TRow Try.prog 61 12 := ⟨⟨_, Try.underlying61, rfl⟩, by kernel_rfl⟩
instance : TFld Try.prog 61 0 0 := ⟨_, _, 1, Try.underlying61, rfl, rfl, by kernel_rfl⟩
instance : TFld Try.prog 61 1 2 := ⟨_, _, 1, Try.underlying61, rfl, rfl, by kernel_rfl⟩
instance : TFld Try.prog 61 2 4 := ⟨_, _, 1, Try.underlying61, rfl, rfl, by kernel_rfl⟩
instance : TFld Try.prog 61 3 6 := ⟨_, _, 1, Try.underlying61, rfl, rfl, by kernel_rfl⟩
instance : TFld Try.prog 61 4 8 := ⟨_, _, 1, Try.underlying61, rfl, rfl, by kernel_rfl⟩
instance : TFld Try.prog 61 5 10 := ⟨_, _, 1, Try.underlying61, rfl, rfl, by kernel_rfl⟩
instance : TEq Try.prog 61 [0, 0, 0, 0, 0, 0, 0, 0, 0, 0, 0, 0] := ⟨by kernel_rfl, by kernel_rfl, _, Try.underlying61⟩
instance : TEl Try.prog 61 12 96 (.agg #[.int .i64 0, .int .i64 0, .int .i64 0, .int .i64 0, .int .i64 0, .int .i64 0, .int .i64 0, .int .i64 0, .int .i64 0, .int .i64 0, .int .i64 0, .int .i64 0]) := ⟨by kernel_rfl, rfl, by decide⟩
instance : TZero Try.prog 61 [.int .i64 0, .int .i64 0, .int .i64 0, .int .i64 0, .int .i64 0, .int .i64 0, .int .i64 0, .int .i64 0, .int .i64 0, .int .i64 0, .int .i64 0, .int .i64 0] := ⟨.agg #[.int .i64 0, .int .i64 0, .int .i64 0, .int .i64 0, .int .i64 0, .int .i64 0, .int .i64 0, .int .i64 0, .int .i64 0, .int .i64 0, .int .i64 0, .int .i64 0], by kernel_rfl, rfl⟩
instance : TRow Try.prog 62 12 := ⟨⟨_, Try.underlying62, rfl⟩, by kernel_rfl⟩
instance : TFld Try.prog 62 0 0 := ⟨_, _, 1, Try.underlying62, rfl, rfl, by kernel_rfl⟩
instance : TFld Try.prog 62 1 2 := ⟨_, _, 1, Try.underlying62, rfl, rfl, by kernel_rfl⟩
instance : TFld Try.prog 62 2 4 := ⟨_, _, 1, Try.underlying62, rfl, rfl, by kernel_rfl⟩
instance : TFld Try.prog 62 3 6 := ⟨_, _, 1, Try.underlying62, rfl, rfl, by kernel_rfl⟩
instance : TFld Try.prog 62 4 8 := ⟨_, _, 1, Try.underlying62, rfl, rfl, by kernel_rfl⟩
instance : TFld Try.prog 62 5 10 := ⟨_, _, 1, Try.underlying62, rfl, rfl, by kernel_rfl⟩
instance : TEq Try.prog 62 [0, 0, 0, 0, 0, 0, 0, 0, 0, 0, 0, 0] := ⟨by kernel_rfl, by kernel_rfl, _, Try.underlying62⟩
instance : TEl Try.prog 62 12 96 (.agg #[.int .i64 0, .int .i64 0, .int .i64 0, .int .i64 0, .int .i64 0, .int .i64 0, .int .i64 0, .int .i64 0, .int .i64 0, .int .i64 0, .int .i64 0, .int .i64 0]) := ⟨by kernel_rfl, rfl, by decide⟩
instance : TZero Try.prog 62 [.int .i64 0, .int .i64 0, .int .i64 0, .int .i64 0, .int .i64 0, .int .i64 0, .int .i64 0, .int .i64 0, .int .i64 0, .int .i64 0, .int .i64 0, .int .i64 0] := ⟨.agg #[.int .i64 0, .int .i64 0, .int .i64 0, .int .i64 0, .int .i64 0, .int .i64 0, .int .i64 0, .int .i64 0, .int .i64 0, .int .i64 0, .int .i64 0, .int .i64 0], by kernel_rfl, rfl⟩
instance : TRow Try.prog 63 4 := ⟨⟨_, Try.underlying63, rfl⟩, by kernel_rfl⟩
instance : TFld Try.prog 63 0 0 := ⟨_, _, 0, Try.underlying63, rfl, rfl, by kernel_rfl⟩
instance : TFld Try.prog 63 1 1 := ⟨_, _, 0, Try.underlying63, rfl, rfl, by kernel_rfl⟩
instance : TFld Try.prog 63 2 2 := ⟨_, _, 0, Try.underlying63, rfl, rfl, by kernel_rfl⟩
instance : TFld Try.prog 63 3 3 := ⟨_, _, 0, Try.underlying63, rfl, rfl, by kernel_rfl⟩
instance : TEq Try.prog 63 [0, 0, 0, 0] := ⟨by kernel_rfl, by kernel_rfl, _, Try.underlying63⟩
instance : TEl Try.prog 63 4 32 (.agg #[.int .i64 0, .int .i64 0, .int .i64 0, .int .i64 0]) := ⟨by kernel_rfl, rfl, by decide⟩
instance : TZero Try.prog 63 [.int .i64 0, .int .i64 0, .int .i64 0, .int .i64 0] := ⟨.agg #[.int .i64 0, .int .i64 0, .int .i64 0, .int .i64 0], by kernel_rfl, rfl⟩
instance : TRow Try.prog 64 4 := ⟨⟨_, Try.underlying64, rfl⟩, by kernel_rfl⟩
instance : TFld Try.prog 64 0 0 := ⟨_, _, 0, Try.underlying64, rfl, rfl, by kernel_rfl⟩
instance : TFld Try.prog 64 1 1 := ⟨_, _, 0, Try.underlying64, rfl, rfl, by kernel_rfl⟩
instance : TFld Try.prog 64 2 2 := ⟨_, _, 0, Try.underlying64, rfl, rfl, by kernel_rfl⟩
instance : TFld Try.prog 64 3 3 := ⟨_, _, 0, Try.underlying64, rfl, rfl, by kernel_rfl⟩
instance : TEq Try.prog 64 [0, 0, 0, 0] := ⟨by kernel_rfl, by kernel_rfl, _, Try.underlying64⟩
instance : TEl Try.prog 64 4 32 (.agg #[.int .i64 0, .int .i64 0, .int .i64 0, .int .i64 0]) := ⟨by kernel_rfl, rfl, by decide⟩
instance : TZero Try.prog 64 [.int .i64 0, .int .i64 0, .int .i64 0, .int .i64 0] := ⟨.agg #[.int .i64 0, .int .i64 0, .int .i64 0, .int .i64 0], by kernel_rfl, rfl⟩
instance : TRow Try.prog 65 60 := ⟨⟨_, Try.underlying65, rfl⟩, by kernel_rfl⟩
instance : TFld Try.prog 65 0 0 := ⟨_, _, 0, Try.underlying65, rfl, rfl, by kernel_rfl⟩
instance : TFld Try.prog 65 1 1 := ⟨_, _, 0, Try.underlying65, rfl, rfl, by kernel_rfl⟩
instance : TFld Try.prog 65 2 2 := ⟨_, _, 0, Try.underlying65, rfl, rfl, by kernel_rfl⟩
instance : TFld Try.prog 65 3 3 := ⟨_, _, 0, Try.underlying65, rfl, rfl, by kernel_rfl⟩
instance : TFld Try.prog 65 4 4 := ⟨_, _, 0, Try.underlying65, rfl, rfl, by kernel_rfl⟩
instance : TFld Try.prog 65 5 5 := ⟨_, _, 0, Try.underlying65, rfl, rfl, by kernel_rfl⟩
instance : TFld Try.prog 65 6 6 := ⟨_, _, 0, Try.underlying65, rfl, rfl, by kernel_rfl⟩
instance : TFld Try.prog 65 7 7 := ⟨_, _, 0, Try.underlying65, rfl, rfl, by kernel_rfl⟩
instance : TFld Try.prog 65 8 8 := ⟨_, _, 0, Try.underlying65, rfl, rfl, by kernel_rfl⟩
instance : TFld Try.prog 65 9 9 := ⟨_, _, 0, Try.underlying65, rfl, rfl, by kernel_rfl⟩
instance : TFld Try.prog 65 10 10 := ⟨_, _, 0, Try.underlying65, rfl, rfl, by kernel_rfl⟩
instance : TFld Try.prog 65 11 11 := ⟨_, _, 1, Try.underlying65, rfl, rfl, by kernel_rfl⟩
instance : TFld Try.prog 65 12 13 := ⟨_, _, 1, Try.underlying65, rfl, rfl, by kernel_rfl⟩
instance : TFld Try.prog 65 13 15 := ⟨_, _, 1, Try.underlying65, rfl, rfl, by kernel_rfl⟩
instance : TFld Try.prog 65 14 17 := ⟨_, _, 1, Try.underlying65, rfl, rfl, by kernel_rfl⟩
instance : TFld Try.prog 65 15 19 := ⟨_, _, 1, Try.underlying65, rfl, rfl, by kernel_rfl⟩
instance : TFld Try.prog 65 16 21 := ⟨_, _, 1, Try.underlying65, rfl, rfl, by kernel_rfl⟩
instance : TFld Try.prog 65 17 23 := ⟨_, _, 1, Try.underlying65, rfl, rfl, by kernel_rfl⟩
instance : TFld Try.prog 65 18 25 := ⟨_, _, 0, Try.underlying65, rfl, rfl, by kernel_rfl⟩
instance : TFld Try.prog 65 19 26 := ⟨_, _, 11, Try.underlying65, rfl, rfl, by kernel_rfl⟩
instance : TFld Try.prog 65 20 38 := ⟨_, _, 11, Try.underlying65, rfl, rfl, by kernel_rfl⟩
instance : TFld Try.prog 65 21 50 := ⟨_, _, 3, Try.underlying65, rfl, rfl, by kernel_rfl⟩
instance : TFld Try.prog 65 22 54 := ⟨_, _, 3, Try.underlying65, rfl, rfl, by kernel_rfl⟩
instance : TFld Try.prog 65 23 58 := ⟨_, _, 0, Try.underlying65, rfl, rfl, by kernel_rfl⟩
instance : TFld Try.prog 65 24 59 := ⟨_, _, 0, Try.underlying65, rfl, rfl, by kernel_rfl⟩
instance : TEq Try.prog 65 [0, 0, 0, 0, 0, 0, 1, 1, 0, 0, 0, 0, 0, 0, 0, 0, 0, 0, 0, 0, 0, 0, 0, 0, 0, 0, 0, 0, 0, 0, 0, 0, 0, 0, 0, 0, 0, 0, 0, 0, 0, 0, 0, 0, 0, 0, 0, 0, 0, 0, 0, 0, 0, 0, 0, 0, 0, 0, 0, 0] := ⟨by kernel_rfl, by kernel_rfl, _, Try.underlying65⟩
instance : TEl Try.prog 65 60 472 (.agg #[.int .i64 0, .int .i64 0, .int .i64 0, .int .i64 0, .int .i64 0, .int .i64 0, .bool false, .bool false, .int .i64 0, .int .i64 0, .int .i64 0, .int .i64 0, .int .i64 0, .int .i64 0, .int .i64 0, .int .i64 0, .int .i64 0, .int .i64 0, .int .i64 0, .int .i64 0, .int .i64 0, .int .i64 0, .int .i64 0, .int .i64 0, .int .i64 0, .int .i64 0, .int .i64 0, .int .i64 0, .int .i64 0, .int .i64 0, .int .i64 0, .int .i64 0, .int .i64 0, .int .i64 0, .int .i64 0, .int .i64 0, .int .i64 0, .int .i64 0, .int .i64 0, .int .i64 0, .int .i64 0, .int .i64 0, .int .i64 0, .int .i64 0, .int .i64 0, .int .i64 0, .int .i64 0, .int .i64 0, .int .i64 0, .int .i64 0, .int .i64 0, .int .i64 0, .int .i64 0, .int .i64 0, .int .i64 0, .int .i64 0, .int .i64 0, .int .i64 0, .int .i64 0, .int .i64 0]) := ⟨by kernel_rfl, rfl, by decide⟩
instance : TZero Try.prog 65 [.int .i64 0, .int .i64 0, .int .i64 0, .int .i64 0, .int .i64 0, .int .i64 0, .bool false, .bool false, .int .i64 0, .int .i64 0, .int .i64 0, .int .i64 0, .int .i64 0, .int .i64 0, .int .i64 0, .int .i64 0, .int .i64 0, .int .i64 0, .int .i64 0, .int .i64 0, .int .i64 0, .int .i64 0, .int .i64 0, .int .i64 0, .int .i64 0, .int .i64 0, .int .i64 0, .int .i64 0, .int .i64 0, .int .i64 0, .int .i64 0, .int .i64 0, .int .i64 0, .int .i64 0, .int .i64 0, .int .i64 0, .int .i64 0, .int .i64 0, .int .i64 0, .int .i64 0, .int .i64 0, .int .i64 0, .int .i64 0, .int .i64 0, .int .i64 0, .int .i64 0, .int .i64 0, .int .i64 0, .int .i64 0, .int .i64 0, .int .i64 0, .int .i64 0, .int .i64 0, .int .i64 0, .int .i64 0, .int .i64 0, .int .i64 0, .int .i64 0, .int .i64 0, .int .i64 0] := ⟨.agg #[.int .i64 0, .int .i64 0, .int .i64 0, .int .i64 0, .int .i64 0, .int .i64 0, .bool false, .bool false, .int .i64 0, .int .i64 0, .int .i64 0, .int .i64 0, .int .i64 0, .int .i64 0, .int .i64 0, .int .i64 0, .int .i64 0, .int .i64 0, .int .i64 0, .int .i64 0, .int .i64 0, .int .i64 0, .int .i64 0, .int .i64 0, .int .i64 0, .int .i64 0, .int .i64 0, .int .i64 0, .int .i64 0, .int .i64 0, .int .i64 0, .int .i64 0, .int .i64 0, .int .i64 0, .int .i64 0, .int .i64 0, .int .i64 0, .int .i64 0, .int .i64 0, .int .i64 0, .int .i64 0, .int .i64 0, .int .i64 0, .int .i64 0, .int .i64 0, .int .i64 0, .int .i64 0, .int .i64 0, .int .i64 0, .int .i64 0, .int .i64 0, .int .i64 0, .int .i64 0, .int .i64 0, .int .i64 0, .int .i64 0, .int .i64 0, .int .i64 0, .int .i64 0, .int .i64 0], by kernel_rfl, rfl⟩
instance : TRow Try.prog 66 60 := ⟨⟨_, Try.underlying66, rfl⟩, by kernel_rfl⟩
instance : TFld Try.prog 66 0 0 := ⟨_, _, 0, Try.underlying66, rfl, rfl, by kernel_rfl⟩
instance : TFld Try.prog 66 1 1 := ⟨_, _, 0, Try.underlying66, rfl, rfl, by kernel_rfl⟩
instance : TFld Try.prog 66 2 2 := ⟨_, _, 0, Try.underlying66, rfl, rfl, by kernel_rfl⟩
instance : TFld Try.prog 66 3 3 := ⟨_, _, 0, Try.underlying66, rfl, rfl, by kernel_rfl⟩
instance : TFld Try.prog 66 4 4 := ⟨_, _, 0, Try.underlying66, rfl, rfl, by kernel_rfl⟩
instance : TFld Try.prog 66 5 5 := ⟨_, _, 0, Try.underlying66, rfl, rfl, by kernel_rfl⟩
instance : TFld Try.prog 66 6 6 := ⟨_, _, 0, Try.underlying66, rfl, rfl, by kernel_rfl⟩
instance : TFld Try.prog 66 7 7 := ⟨_, _, 0, Try.underlying66, rfl, rfl, by kernel_rfl⟩
instance : TFld Try.prog 66 8 8 := ⟨_, _, 0, Try.underlying66, rfl, rfl, by kernel_rfl⟩
instance : TFld Try.prog 66 9 9 := ⟨_, _, 0, Try.underlying66, rfl, rfl, by kernel_rfl⟩
instance : TFld Try.prog 66 10 10 := ⟨_, _, 0, Try.underlying66, rfl, rfl, by kernel_rfl⟩
instance : TFld Try.prog 66 11 11 := ⟨_, _, 1, Try.underlying66, rfl, rfl, by kernel_rfl⟩
instance : TFld Try.prog 66 12 13 := ⟨_, _, 1, Try.underlying66, rfl, rfl, by kernel_rfl⟩
instance : TFld Try.prog 66 13 15 := ⟨_, _, 1, Try.underlying66, rfl, rfl, by kernel_rfl⟩
instance : TFld Try.prog 66 14 17 := ⟨_, _, 1, Try.underlying66, rfl, rfl, by kernel_rfl⟩
instance : TFld Try.prog 66 15 19 := ⟨_, _, 1, Try.underlying66, rfl, rfl, by kernel_rfl⟩
instance : TFld Try.prog 66 16 21 := ⟨_, _, 1, Try.underlying66, rfl, rfl, by kernel_rfl⟩
instance : TFld Try.prog 66 17 23 := ⟨_, _, 1, Try.underlying66, rfl, rfl, by kernel_rfl⟩
instance : TFld Try.prog 66 18 25 := ⟨_, _, 0, Try.underlying66, rfl, rfl, by kernel_rfl⟩
instance : TFld Try.prog 66 19 26 := ⟨_, _, 11, Try.underlying66, rfl, rfl, by kernel_rfl⟩
instance : TFld Try.prog 66 20 38 := ⟨_, _, 11, Try.underlying66, rfl, rfl, by kernel_rfl⟩
instance : TFld Try.prog 66 21 50 := ⟨_, _, 3, Try.underlying66, rfl, rfl, by kernel_rfl⟩
instance : TFld Try.prog 66 22 54 := ⟨_, _, 3, Try.underlying66, rfl, rfl, by kernel_rfl⟩
instance : TFld Try.prog 66 23 58 := ⟨_, _, 0, Try.underlying66, rfl, rfl, by kernel_rfl⟩
instance : TFld Try.prog 66 24 59 := ⟨_, _, 0, Try.underlying66, rfl, rfl, by kernel_rfl⟩
instance : TEq Try.prog 66 [0, 0, 0, 0, 0, 0, 1, 1, 0, 0, 0, 0, 0, 0, 0, 0, 0, 0, 0, 0, 0, 0, 0, 0, 0, 0, 0, 0, 0, 0, 0, 0, 0, 0, 0, 0, 0, 0, 0, 0, 0, 0, 0, 0, 0, 0, 0, 0, 0, 0, 0, 0, 0, 0, 0, 0, 0, 0, 0, 0] := ⟨by kernel_rfl, by kernel_rfl, _, Try.underlying66⟩
instance : TEl Try.prog 66 60 472 (.agg #[.int .i64 0, .int .i64 0, .int .i64 0, .int .i64 0, .int .i64 0, .int .i64 0, .bool false, .bool false, .int .i64 0, .int .i64 0, .int .i64 0, .int .i64 0, .int .i64 0, .int .i64 0, .int .i64 0, .int .i64 0, .int .i64 0, .int .i64 0, .int .i64 0, .int .i64 0, .int .i64 0, .int .i64 0, .int .i64 0, .int .i64 0, .int .i64 0, .int .i64 0, .int .i64 0, .int .i64 0, .int .i64 0, .int .i64 0, .int .i64 0, .int .i64 0, .int .i64 0, .int .i64 0, .int .i64 0, .int .i64 0, .int .i64 0, .int .i64 0, .int .i64 0, .int .i64 0, .int .i64 0, .int .i64 0, .int .i64 0, .int .i64 0, .int .i64 0, .int .i64 0, .int .i64 0, .int .i64 0, .int .i64 0, .int .i64 0, .int .i64 0, .int .i64 0, .int .i64 0, .int .i64 0, .int .i64 0, .int .i64 0, .int .i64 0, .int .i64 0, .int .i64 0, .int .i64 0]) := ⟨by kernel_rfl, rfl, by decide⟩
instance : TZero Try.prog 66 [.int .i64 0, .int .i64 0, .int .i64 0, .int .i64 0, .int .i64 0, .int .i64 0, .bool false, .bool false, .int .i64 0, .int .i64 0, .int .i64 0, .int .i64 0, .int .i64 0, .int .i64 0, .int .i64 0, .int .i64 0, .int .i64 0, .int .i64 0, .int .i64 0, .int .i64 0, .int .i64 0, .int .i64 0, .int .i64 0, .int .i64 0, .int .i64 0, .int .i64 0, .int .i64 0, .int .i64 0, .int .i64 0, .int .i64 0, .int .i64 0, .int .i64 0, .int .i64 0, .int .i64 0, .int .i64 0, .int .i64 0, .int .i64 0, .int .i64 0, .int .i64 0, .int .i64 0, .int .i64 0, .int .i64 0, .int .i64 0, .int .i64 0, .int .i64 0, .int .i64 0, .int .i64 0, .int .i64 0, .int .i64 0, .int .i64 0, .int .i64 0, .int .i64 0, .int .i64 0, .int .i64 0, .int .i64 0, .int .i64 0, .int .i64 0, .int .i64 0, .int .i64 0, .int .i64 0] := ⟨.agg #[.int .i64 0, .int .i64 0, .int .i64 0, .int .i64 0, .int .i64 0, .int .i64 0, .bool false, .bool false, .int .i64 0, .int .i64 0, .int .i64 0, .int .i64 0, .int .i64 0, .int .i64 0, .int .i64 0, .int .i64 0, .int .i64 0, .int .i64 0, .int .i64 0, .int .i64 0, .int .i64 0, .int .i64 0, .int .i64 0, .int .i64 0, .int .i64 0, .int .i64 0, .int .i64 0, .int .i64 0, .int .i64 0, .int .i64 0, .int .i64 0, .int .i64 0, .int .i64 0, .int .i64 0, .int .i64 0, .int .i64 0, .int .i64 0, .int .i64 0, .int .i64 0, .int .i64 0, .int .i64 0, .int .i64 0, .int .i64 0, .int .i64 0, .int .i64 0, .int .i64 0, .int .i64 0, .int .i64 0, .int .i64 0, .int .i64 0, .int .i64 0, .int .i64 0, .int .i64 0, .int .i64 0, .int .i64 0, .int .i64 0, .int .i64 0, .int .i64 0, .int .i64 0, .int .i64 0], by kernel_rfl, rfl⟩
instance : TOne Try.prog 74 := ⟨⟨_, Try.underlying74, rfl⟩, by kernel_rfl⟩
instance : TSl Try.prog 74 152 3 := ⟨Try.underlying74, by kernel_rfl⟩
instance : TEl Try.prog 74 1 24 (.slice none 0 0) := ⟨by kernel_rfl, rfl, by decide⟩
instance : TZero Try.prog 74 [.slice none 0 0] := ⟨.slice none 0 0, by kernel_rfl, rfl⟩
instance : TRow Try.prog 75 1 := ⟨⟨_, Try.underlying75, rfl⟩, by kernel_rfl⟩
instance : TFld Try.prog 75 0 0 := ⟨_, _, 0, Try.underlying75, rfl, rfl, by kernel_rfl⟩
instance : TEl Try.prog 75 1 24 (.agg #[.slice none 0 0]) := ⟨by kernel_rfl, rfl, by decide⟩
instance : TZero Try.prog 75 [.slice none 0 0] := ⟨.agg #[.slice none 0 0], by kernel_rfl, rfl⟩
instance : TRow Try.prog 76 1 := ⟨⟨_, Try.underlying76, rfl⟩, by kernel_rfl⟩
instance : TFld Try.prog 76 0 0 := ⟨_, _, 0, Try.underlying76, rfl, rfl, by kernel_rfl⟩
instance : TEl Try.prog 76 1 24 (.agg #[.slice none 0 0]) := ⟨by kernel_rfl, rfl, by decide⟩
instance : TZero Try.prog 76 [.slice none 0 0] := ⟨.agg #[.slice none 0 0], by kernel_rfl, rfl⟩
instance : TOne Try.prog 84 := ⟨⟨_, Try.underlying84, rfl⟩, by kernel_rfl⟩
instance : TSl Try.prog 84 3 1 := ⟨Try.underlying84, by kernel_rfl⟩
instance : TEl Try.prog 84 1 24 (.slice none 0 0) := ⟨by kernel_rfl, rfl, by decide⟩
instance : TZero Try.prog 84 [.slice none 0 0] := ⟨.slice none 0 0, by kernel_rfl, rfl⟩
instance : TRow Try.prog 85 64 := ⟨⟨_, Try.underlying85, rfl⟩, by kernel_rfl⟩
instance : TFld Try.prog 85 0 0 := ⟨_, _, 0, Try.underlying85, rfl, rfl, by kernel_rfl⟩
instance : TFld Try.prog 85 1 1 := ⟨_, _, 0, Try.underlying85, rfl, rfl, by kernel_rfl⟩
instance : TFld Try.prog 85 2 2 := ⟨_, _, 59, Try.underlying85, rfl, rfl, by kernel_rfl⟩
instance : TFld Try.prog 85 3 62 := ⟨_, _, 0, Try.underlying85, rfl, rfl, by kernel_rfl⟩
instance : TFld Try.prog 85 4 63 := ⟨_, _, 0, Try.underlying85, rfl, rfl, by kernel_rfl⟩
instance : TEl Try.prog 85 64 536 (.agg #[.int .i64 0, .slice none 0 0, .int .i64 0, .int .i64 0, .int .i64 0, .int .i64 0, .int .i64 0, .int .i64 0, .bool false, .bool false, .int .i64 0, .int .i64 0, .int .i64 0, .int .i64 0, .int .i64 0, .int .i64 0, .int .i64 0, .int .i64 0, .int .i64 0, .int .i64 0, .int .i64 0, .int .i64 0, .int .i64 0, .int .i64 0, .int .i64 0, .int .i64 0, .int .i64 0, .int .i64 0, .int .i64 0, .int .i64 0, .int .i64 0, .int .i64 0, .int .i64 0, .int .i64 0, .int .i64 0, .int .i64 0, .int .i64 0, .int .i64 0, .int .i64 0, .int .i64 0, .int .i64 0, .int .i64 0, .int .i64 0, .int .i64 0, .int .i64 0, .int .i64 0, .int .i64 0, .int .i64 0, .int .i64 0, .int .i64 0, .int .i64 0, .int .i64 0, .int .i64 0, .int .i64 0, .int .i64 0, .int .i64 0, .int .i64 0, .int .i64 0, .int .i64 0, .int .i64 0, .int .i64 0, .int .i64 0, .bool false, .slice none 0 0]) := ⟨by kernel_rfl, rfl, by decide⟩
instance : TZero Try.prog 85 [.int .i64 0, .slice none 0 0, .int .i64 0, .int .i64 0, .int .i64 0, .int .i64 0, .int .i64 0, .int .i64 0, .bool false, .bool false, .int .i64 0, .int .i64 0, .int .i64 0, .int .i64 0, .int .i64 0, .int .i64 0, .int .i64 0, .int .i64 0, .int .i64 0, .int .i64 0, .int .i64 0, .int .i64 0, .int .i64 0, .int .i64 0, .int .i64 0, .int .i64 0, .int .i64 0, .int .i64 0, .int .i64 0, .int .i64 0, .int .i64 0, .int .i64 0, .int .i64 0, .int .i64 0, .int .i64 0, .int .i64 0, .int .i64 0, .int .i64 0, .int .i64 0, .int .i64 0, .int .i64 0, .int .i64 0, .int .i64 0, .int .i64 0, .int .i64 0, .int .i64 0, .int .i64 0, .int .i64 0, .int .i64 0, .int .i64 0, .int .i64 0, .int .i64 0, .int .i64 0, .int .i64 0, .int .i64 0, .int .i64 0, .int .i64 0, .int .i64 0, .int .i64 0, .int .i64 0, .int .i64 0, .int .i64 0, .bool false, .slice none 0 0] := ⟨.agg #[.int .i64 0, .slice none 0 0, .int .i64 0, .int .i64 0, .int .i64 0, .int .i64 0, .int .i64 0, .int .i64 0, .bool false, .bool false, .int .i64 0, .int .i64 0, .int .i64 0, .int .i64 0, .int .i64 0, .int .i64 0, .int .i64 0, .int .i64 0, .int .i64 0, .int .i64 0, .int .i64 0, .int .i64 0, .int .i64 0, .int .i64 0, .int .i64 0, .int .i64 0, .int .i64 0, .int .i64 0, .int .i64 0, .int .i64 0, .int .i64 0, .int .i64 0, .int .i64 0, .int .i64 0, .int .i64 0, .int .i64 0, .int .i64 0, .int .i64 0, .int .i64 0, .int .i64 0, .int .i64 0, .int .i64 0, .int .i64 0, .int .i64 0, .int .i64 0, .int .i64 0, .int .i64 0, .int .i64 0, .int .i64 0, .int .i64 0, .int .i64 0, .int .i64 0, .int .i64 0, .int .i64 0, .int .i64 0, .int .i64 0, .int .i64 0, .int .i64 0, .int .i64 0, .int .i64 0, .int .i64 0, .int .i64 0, .bool false, .slice none 0 0], by kernel_rfl, rfl⟩
instance : TRow Try.prog 86 64 := ⟨⟨_, Try.underlying86, rfl⟩, by kernel_rfl⟩
instance : TFld Try.prog 86 0 0 := ⟨_, _, 0, Try.underlying86, rfl, rfl, by kernel_rfl⟩
instance : TFld Try.prog 86 1 1 := ⟨_, _, 0, Try.underlying86, rfl, rfl, by kernel_rfl⟩
instance : TFld Try.prog 86 2 2 := ⟨_, _, 59, Try.underlying86, rfl, rfl, by kernel_rfl⟩
instance : TFld Try.prog 86 3 62 := ⟨_, _, 0, Try.underlying86, rfl, rfl, by kernel_rfl⟩
instance : TFld Try.prog 86 4 63 := ⟨_, _, 0, Try.underlying86, rfl, rfl, by kernel_rfl⟩
instance : TEl Try.prog 86 64 536 (.agg #[.int .i64 0, .slice none 0 0, .int .i64 0, .int .i64 0, .int .i64 0, .int .i64 0, .int .i64 0, .int .i64 0, .bool false, .bool false, .int .i64 0, .int .i64 0, .int .i64 0, .int .i64 0, .int .i64 0, .int .i64 0, .int .i64 0, .int .i64 0, .int .i64 0, .int .i64 0, .int .i64 0, .int .i64 0, .int .i64 0, .int .i64 0, .int .i64 0, .int .i64 0, .int .i64 0, .int .i64 0, .int .i64 0, .int .i64 0, .int .i64 0, .int .i64 0, .int .i64 0, .int .i64 0, .int .i64 0, .int .i64 0, .int .i64 0, .int .i64 0, .int .i64 0, .int .i64 0, .int .i64 0, .int .i64 0, .int .i64 0, .int .i64 0, .int .i64 0, .int .i64 0, .int .i64 0, .int .i64 0, .int .i64 0, .int .i64 0, .int .i64 0, .int .i64 0, .int .i64 0, .int .i64 0, .int .i64 0, .int .i64 0, .int .i64 0, .int .i64 0, .int .i64 0, .int .i64 0, .int .i64 0, .int .i64 0, .bool false, .slice none 0 0]) := ⟨by kernel_rfl, rfl, by decide⟩
instance : TZero Try.prog 86 [.int .i64 0, .slice none 0 0, .int .i64 0, .int .i64 0, .int .i64 0, .int .i64 0, .int .i64 0, .int .i64 0, .bool false, .bool false, .int .i64 0, .int .i64 0, .int .i64 0, .int .i64 0, .int .i64 0, .int .i64 0, .int .i64 0, .int .i64 0, .int .i64 0, .int .i64 0, .int .i64 0, .int .i64 0, .int .i64 0, .int .i64 0, .int .i64 0, .int .i64 0, .int .i64 0, .int .i64 0, .int .i64 0, .int .i64 0, .int .i64 0, .int .i64 0, .int .i64 0, .int .i64 0, .int .i64 0, .int .i64 0, .int .i64 0, .int .i64 0, .int .i64 0, .int .i64 0, .int .i64 0, .int .i64 0, .int .i64 0, .int .i64 0, .int .i64 0, .int .i64 0, .int .i64 0, .int .i64 0, .int .i64 0, .int .i64 0, .int .i64 0, .int .i64 0, .int .i64 0, .int .i64 0, .int .i64 0, .int .i64 0, .int .i64 0, .int .i64 0, .int .i64 0, .int .i64 0, .int .i64 0, .int .i64 0, .bool false, .slice none 0 0] := ⟨.agg #[.int .i64 0, .slice none 0 0, .int .i64 0, .int .i64 0, .int .i64 0, .int .i64 0, .int .i64 0, .int .i64 0, .bool false, .bool false, .int .i64 0, .int .i64 0, .int .i64 0, .int .i64 0, .int .i64 0, .int .i64 0, .int .i64 0, .int .i64 0, .int .i64 0, .int .i64 0, .int .i64 0, .int .i64 0, .int .i64 0, .int .i64 0, .int .i64 0, .int .i64 0, .int .i64 0, .int .i64 0, .int .i64 0, .int .i64 0, .int .i64 0, .int .i64 0, .int .i64 0, .int .i64 0, .int .i64 0, .int .i64 0, .int .i64 0, .int .i64 0, .int .i64 0, .int .i64 0, .int .i64 0, .int .i64 0, .int .i64 0, .int .i64 0, .int .i64 0, .int .i64 0, .int .i64 0, .int .i64 0, .int .i64 0, .int .i64 0, .int .i64 0, .int .i64 0, .int .i64 0, .int .i64 0, .int .i64 0, .int .i64 0, .int .i64 0, .int .i64 0, .int .i64 0, .int .i64 0, .int .i64 0, .int .i64 0, .bool false, .slice none 0 0], by kernel_rfl, rfl⟩
instance : TRow Try.prog 98 2 := ⟨⟨_, Try.underlying98, rfl⟩, by kernel_rfl⟩
instance : TFld Try.prog 98 0 0 := ⟨_, _, 0, Try.underlying98, rfl, rfl, by kernel_rfl⟩
instance : TFld Try.prog 98 1 1 := ⟨_, _, 0, Try.underlying98, rfl, rfl, by kernel_rfl⟩
instance : TEq Try.prog 98 [0, 0] := ⟨by kernel_rfl, by kernel_rfl, _, Try.underlying98⟩
instance : TEl Try.prog 98 2 16 (.agg #[.int .i64 0, .int .i64 0]) := ⟨by kernel_rfl, rfl, by decide⟩
instance : TZero Try.prog 98 [.int .i64 0, .int .i64 0] := ⟨.agg #[.int .i64 0, .int .i64 0], by kernel_rfl, rfl⟩
instance : TRow Try.prog 99 2 := ⟨⟨_, Try.underlying99, rfl⟩, by kernel_rfl⟩
instance : TFld Try.prog 99 0 0 := ⟨_, _, 0, Try.underlying99, rfl, rfl, by kernel_rfl⟩
instance : TFld Try.prog 99 1 1 := ⟨_, _, 0, Try.underlying99, rfl, rfl, by kernel_rfl⟩
instance : TEq Try.prog 99 [0, 0] := ⟨by kernel_rfl, by kernel_rfl, _, Try.underlying99⟩
instance : TEl Try.prog 99 2 16 (.agg #[.int .i64 0, .int .i64 0]) := ⟨by kernel_rfl, rfl, by decide⟩
instance : TZero Try.prog 99 [.int .i64 0, .int .i64 0] := ⟨.agg #[.int .i64 0, .int .i64 0], by kernel_rfl, rfl⟩
instance : TRow Try.prog 100 6 := ⟨⟨_, Try.underlying100, rfl⟩, by kernel_rfl⟩
instance : TFld Try.prog 100 0 0 := ⟨_, _, 0, Try.underlying100, rfl, rfl, by kernel_rfl⟩
instance : TFld Try.prog 100 1 1 := ⟨_, _, 1, Try.underlying100, rfl, rfl, by kernel_rfl⟩
instance : TFld Try.prog 100 2 3 := ⟨_, _, 1, Try.underlying100, rfl, rfl, by kernel_rfl⟩
instance : TFld Try.prog 100 3 5 := ⟨_, _, 0, Try.underlying100, rfl, rfl, by kernel_rfl⟩
instance : TEq Try.prog 100 [0, 0, 0, 0, 0, 1] := ⟨by kernel_rfl, by kernel_rfl, _, Try.underlying100⟩
instance : TEl Try.prog 100 6 48 (.agg #[.int .i64 0, .int .i64 0, .int .i64 0, .int .i64 0, .int .i64 0, .bool false]) := ⟨by kernel_rfl, rfl, by decide⟩
instance : TZero Try.prog 100 [.int .i64 0, .int .i64 0, .int .i64 0, .int .i64 0, .int .i64 0, .bool false] := ⟨.agg #[.int .i64 0, .int .i64 0, .int .i64 0, .int .i64 0, .int .i64 0, .bool false], by kernel_rfl, rfl⟩
instance : TRow Try.prog 101 6 := ⟨⟨_, Try.underlying101, rfl⟩, by kernel_rfl⟩
instance : TFld Try.prog 101 0 0 := ⟨_, _, 0, Try.underlying101, rfl, rfl, by kernel_rfl⟩
instance : TFld Try.prog 101 1 1 := ⟨_, _, 1, Try.underlying101, rfl, rfl, by kernel_rfl⟩
instance : TFld Try.prog 101 2 3 := ⟨_, _, 1, Try.underlying101, rfl, rfl, by kernel_rfl⟩
instance : TFld Try.prog 101 3 5 := ⟨_, _, 0, Try.underlying101, rfl, rfl, by kernel_rfl⟩
instance : TEq Try.prog 101 [0, 0, 0, 0, 0, 1] := ⟨by kernel_rfl, by kernel_rfl, _, Try.underlying101⟩
instance : TEl Try.prog 101 6 48 (.agg #[.int .i64 0, .int .i64 0, .int .i64 0, .int .i64 0, .int .i64 0, .bool false]) := ⟨by kernel_rfl, rfl, by decide⟩
instance : TZero Try.prog 101 [.int .i64 0, .int .i64 0, .int .i64 0, .int .i64 0, .int .i64 0, .bool false] := ⟨.agg #[.int .i64 0, .int .i64 0, .int .i64 0, .int .i64 0, .int .i64 0, .bool false], by kernel_rfl, rfl⟩
instance : TOne Try.prog 106 := ⟨⟨_, Try.underlying106, rfl⟩, by kernel_rfl⟩
instance : TPtr Try.prog 106 := ⟨⟨_, Try.underlying106⟩⟩
instance : TEl Try.prog 106 1 8 (.pointer none) := ⟨by kernel_rfl, rfl, by decide⟩
instance : TZero Try.prog 106 [.pointer none] := ⟨.pointer none, by kernel_rfl, rfl⟩
instance : TRow Try.prog 131 5 := ⟨⟨_, Try.underlying131, rfl⟩, by kernel_rfl⟩
instance : TFld Try.prog 131 0 0 := ⟨_, _, 0, Try.underlying131, rfl, rfl, by kernel_rfl⟩
instance : TFld Try.prog 131 1 1 := ⟨_, _, 0, Try.underlying131, rfl, rfl, by kernel_rfl⟩
instance : TFld Try.prog 131 2 2 := ⟨_, _, 0, Try.underlying131, rfl, rfl, by kernel_rfl⟩
instance : TFld Try.prog 131 3 3 := ⟨_, _, 0, Try.underlying131, rfl, rfl, by kernel_rfl⟩
instance : TFld Try.prog 131 4 4 := ⟨_, _, 0, Try.underlying131, rfl, rfl, by kernel_rfl⟩
instance : TEq Try.prog 131 [0, 0, 0, 0, 0] := ⟨by kernel_rfl, by kernel_rfl, _, Try.underlying131⟩
instance : TEl Try.prog 131 5 40 (.agg #[.int .i64 0, .int .i64 0, .int .i64 0, .int .i64 0, .int .i64 0]) := ⟨by kernel_rfl, rfl, by decide⟩
instance : TZero Try.prog 131 [.int .i64 0, .int .i64 0, .int .i64 0, .int .i64 0, .int .i64 0] := ⟨.agg #[.int .i64 0, .int .i64 0, .int .i64 0, .int .i64 0, .int .i64 0], by kernel_rfl, rfl⟩
instance : TRow Try.prog 132 5 := ⟨⟨_, Try.underlying132, rfl⟩, by kernel_rfl⟩
instance : TFld Try.prog 132 0 0 := ⟨_, _, 0, Try.underlying132, rfl, rfl, by kernel_rfl⟩
instance : TFld Try.prog 132 1 1 := ⟨_, _, 0, Try.underlying132, rfl, rfl, by kernel_rfl⟩
instance : TFld Try.prog 132 2 2 := ⟨_, _, 0, Try.underlying132, rfl, rfl, by kernel_rfl⟩
instance : TFld Try.prog 132 3 3 := ⟨_, _, 0, Try.underlying132, rfl, rfl, by kernel_rfl⟩
instance : TFld Try.prog 132 4 4 := ⟨_, _, 0, Try.underlying132, rfl, rfl, by kernel_rfl⟩
instance : TEq Try.prog 132 [0, 0, 0, 0, 0] := ⟨by kernel_rfl, by kernel_rfl, _, Try.underlying132⟩
instance : TEl Try.prog 132 5 40 (.agg #[.int .i64 0, .int .i64 0, .int .i64 0, .int .i64 0, .int .i64 0]) := ⟨by kernel_rfl, rfl, by decide⟩
instance : TZero Try.prog 132 [.int .i64 0, .int .i64 0, .int .i64 0, .int .i64 0, .int .i64 0] := ⟨.agg #[.int .i64 0, .int .i64 0, .int .i64 0, .int .i64 0, .int .i64 0], by kernel_rfl, rfl⟩
instance : TRow Try.prog 134 5 := ⟨⟨_, Try.underlying134, rfl⟩, by kernel_rfl⟩
instance : TFld Try.prog 134 0 0 := ⟨_, _, 0, Try.underlying134, rfl, rfl, by kernel_rfl⟩
instance : TFld Try.prog 134 1 1 := ⟨_, _, 0, Try.underlying134, rfl, rfl, by kernel_rfl⟩
instance : TFld Try.prog 134 2 2 := ⟨_, _, 0, Try.underlying134, rfl, rfl, by kernel_rfl⟩
instance : TFld Try.prog 134 3 3 := ⟨_, _, 0, Try.underlying134, rfl, rfl, by kernel_rfl⟩
instance : TFld Try.prog 134 4 4 := ⟨_, _, 0, Try.underlying134, rfl, rfl, by kernel_rfl⟩
instance : TEq Try.prog 134 [0, 0, 0, 0, 0] := ⟨by kernel_rfl, by kernel_rfl, _, Try.underlying134⟩
instance : TEl Try.prog 134 5 40 (.agg #[.int .i64 0, .int .i64 0, .int .i64 0, .int .i64 0, .int .i64 0]) := ⟨by kernel_rfl, rfl, by decide⟩
instance : TZero Try.prog 134 [.int .i64 0, .int .i64 0, .int .i64 0, .int .i64 0, .int .i64 0] := ⟨.agg #[.int .i64 0, .int .i64 0, .int .i64 0, .int .i64 0, .int .i64 0], by kernel_rfl, rfl⟩
instance : TRow Try.prog 140 3 := ⟨⟨_, Try.underlying140, rfl⟩, by kernel_rfl⟩
instance : TFld Try.prog 140 0 0 := ⟨_, _, 0, Try.underlying140, rfl, rfl, by kernel_rfl⟩
instance : TFld Try.prog 140 1 1 := ⟨_, _, 0, Try.underlying140, rfl, rfl, by kernel_rfl⟩
instance : TFld Try.prog 140 2 2 := ⟨_, _, 0, Try.underlying140, rfl, rfl, by kernel_rfl⟩
instance : TEl Try.prog 140 3 40 (.agg #[.slice none 0 0, .int .i64 0, .int .i64 0]) := ⟨by kernel_rfl, rfl, by decide⟩
instance : TZero Try.prog 140 [.slice none 0 0, .int .i64 0, .int .i64 0] := ⟨.agg #[.slice none 0 0, .int .i64 0, .int .i64 0], by kernel_rfl, rfl⟩
instance : TRow Try.prog 141 3 := ⟨⟨_, Try.underlying141, rfl⟩, by kernel_rfl⟩
instance : TFld Try.prog 141 0 0 := ⟨_, _, 0, Try.underlying141, rfl, rfl, by kernel_rfl⟩
instance : TFld Try.prog 141 1 1 := ⟨_, _, 0, Try.underlying141, rfl, rfl, by kernel_rfl⟩
instance : TFld Try.prog 141 2 2 := ⟨_, _, 0, Try.underlying141, rfl, rfl, by kernel_rfl⟩
instance : TEl Try.prog 141 3 40 (.agg #[.slice none 0 0, .int .i64 0, .int .i64 0]) := ⟨by kernel_rfl, rfl, by decide⟩
instance : TZero Try.prog 141 [.slice none 0 0, .int .i64 0, .int .i64 0] := ⟨.agg #[.slice none 0 0, .int .i64 0, .int .i64 0], by kernel_rfl, rfl⟩
instance : TOne Try.prog 147 := ⟨⟨_, Try.underlying147, rfl⟩, by kernel_rfl⟩
instance : TSl Try.prog 147 60 2 := ⟨Try.underlying147, by kernel_rfl⟩
instance : TEl Try.prog 147 1 24 (.slice none 0 0) := ⟨by kernel_rfl, rfl, by decide⟩
instance : TZero Try.prog 147 [.slice none 0 0] := ⟨.slice none 0 0, by kernel_rfl, rfl⟩
instance : TRow Try.prog 151 3 := ⟨⟨_, Try.underlying151, rfl⟩, by kernel_rfl⟩
instance : TFld Try.prog 151 0 0 := ⟨_, _, 0, Try.underlying151, rfl, rfl, by kernel_rfl⟩
instance : TFld Try.prog 151 1 1 := ⟨_, _, 0, Try.underlying151, rfl, rfl, by kernel_rfl⟩
instance : TFld Try.prog 151 2 2 := ⟨_, _, 0, Try.underlying151, rfl, rfl, by kernel_rfl⟩
instance : TEq Try.prog 151 [0, 0, 0] := ⟨by kernel_rfl, by kernel_rfl, _, Try.underlying151⟩
instance : TEl Try.prog 151 3 24 (.agg #[.int .i64 0, .int .i64 0, .int .i64 0]) := ⟨by kernel_rfl, rfl, by decide⟩
instance : TZero Try.prog 151 [.int .i64 0, .int .i64 0, .int .i64 0] := ⟨.agg #[.int .i64 0, .int .i64 0, .int .i64 0], by kernel_rfl, rfl⟩
instance : TRow Try.prog 152 3 := ⟨⟨_, Try.underlying152, rfl⟩, by kernel_rfl⟩
instance : TFld Try.prog 152 0 0 := ⟨_, _, 0, Try.underlying152, rfl, rfl, by kernel_rfl⟩
instance : TFld Try.prog 152 1 1 := ⟨_, _, 0, Try.underlying152, rfl, rfl, by kernel_rfl⟩
instance : TFld Try.prog 152 2 2 := ⟨_, _, 0, Try.underlying152, rfl, rfl, by kernel_rfl⟩
instance : TEq Try.prog 152 [0, 0, 0] := ⟨by kernel_rfl, by kernel_rfl, _, Try.underlying152⟩
instance : TEl Try.prog 152 3 24 (.agg #[.int .i64 0, .int .i64 0, .int .i64 0]) := ⟨by kernel_rfl, rfl, by decide⟩
instance : TZero Try.prog 152 [.int .i64 0, .int .i64 0, .int .i64 0] := ⟨.agg #[.int .i64 0, .int .i64 0, .int .i64 0], by kernel_rfl, rfl⟩
instance : TRow Try.prog 157 2 := ⟨⟨_, Try.underlying157, rfl⟩, by kernel_rfl⟩
instance : TFld Try.prog 157 0 0 := ⟨_, _, 0, Try.underlying157, rfl, rfl, by kernel_rfl⟩
instance : TFld Try.prog 157 1 1 := ⟨_, _, 0, Try.underlying157, rfl, rfl, by kernel_rfl⟩
instance : TEq Try.prog 157 [0, 0] := ⟨by kernel_rfl, by kernel_rfl, _, Try.underlying157⟩
instance : TEl Try.prog 157 2 16 (.agg #[.int .i64 0, .int .i64 0]) := ⟨by kernel_rfl, rfl, by decide⟩
instance : TZero Try.prog 157 [.int .i64 0, .int .i64 0] := ⟨.agg #[.int .i64 0, .int .i64 0], by kernel_rfl, rfl⟩
instance : TRow Try.prog 158 12 := ⟨⟨_, Try.underlying158, rfl⟩, by kernel_rfl⟩
instance : TFld Try.prog 158 0 0 := ⟨_, _, 1, Try.underlying158, rfl, rfl, by kernel_rfl⟩
instance : TFld Try.prog 158 1 2 := ⟨_, _, 1, Try.underlying158, rfl, rfl, by kernel_rfl⟩
instance : TFld Try.prog 158 2 4 := ⟨_, _, 1, Try.underlying158, rfl, rfl, by kernel_rfl⟩
instance : TFld Try.prog 158 3 6 := ⟨_, _, 1, Try.underlying158, rfl, rfl, by kernel_rfl⟩
instance : TFld Try.prog 158 4 8 := ⟨_, _, 1, Try.underlying158, rfl, rfl, by kernel_rfl⟩
instance : TFld Try.prog 158 5 10 := ⟨_, _, 1, Try.underlying158, rfl, rfl, by kernel_rfl⟩
instance : TEq Try.prog 158 [0, 0, 0, 0, 0, 0, 0, 0, 0, 0, 0, 0] := ⟨by kernel_rfl, by kernel_rfl, _, Try.underlying158⟩
instance : TEl Try.prog 158 12 96 (.agg #[.int .i64 0, .int .i64 0, .int .i64 0, .int .i64 0, .int .i64 0, .int .i64 0, .int .i64 0, .int .i64 0, .int .i64 0, .int .i64 0, .int .i64 0, .int .i64 0]) := ⟨by kernel_rfl, rfl, by decide⟩
instance : TZero Try.prog 158 [.int .i64 0, .int .i64 0, .int .i64 0, .int .i64 0, .int .i64 0, .int .i64 0, .int .i64 0, .int .i64 0, .int .i64 0, .int .i64 0, .int .i64 0, .int .i64 0] := ⟨.agg #[.int .i64 0, .int .i64 0, .int .i64 0, .int .i64 0, .int .i64 0, .int .i64 0, .int .i64 0, .int .i64 0, .int .i64 0, .int .i64 0, .int .i64 0, .int .i64 0], by kernel_rfl, rfl⟩
instance : TRow Try.prog 159 12 := ⟨⟨_, Try.underlying159, rfl⟩, by kernel_rfl⟩
instance : TFld Try.prog 159 0 0 := ⟨_, _, 1, Try.underlying159, rfl, rfl, by kernel_rfl⟩
instance : TFld Try.prog 159 1 2 := ⟨_, _, 1, Try.underlying159, rfl, rfl, by kernel_rfl⟩
instance : TFld Try.prog 159 2 4 := ⟨_, _, 1, Try.underlying159, rfl, rfl, by kernel_rfl⟩
instance : TFld Try.prog 159 3 6 := ⟨_, _, 1, Try.underlying159, rfl, rfl, by kernel_rfl⟩
instance : TFld Try.prog 159 4 8 := ⟨_, _, 1, Try.underlying159, rfl, rfl, by kernel_rfl⟩
instance : TFld Try.prog 159 5 10 := ⟨_, _, 1, Try.underlying159, rfl, rfl, by kernel_rfl⟩
instance : TEq Try.prog 159 [0, 0, 0, 0, 0, 0, 0, 0, 0, 0, 0, 0] := ⟨by kernel_rfl, by kernel_rfl, _, Try.underlying159⟩
instance : TEl Try.prog 159 12 96 (.agg #[.int .i64 0, .int .i64 0, .int .i64 0, .int .i64 0, .int .i64 0, .int .i64 0, .int .i64 0, .int .i64 0, .int .i64 0, .int .i64 0, .int .i64 0, .int .i64 0]) := ⟨by kernel_rfl, rfl, by decide⟩
instance : TZero Try.prog 159 [.int .i64 0, .int .i64 0, .int .i64 0, .int .i64 0, .int .i64 0, .int .i64 0, .int .i64 0, .int .i64 0, .int .i64 0, .int .i64 0, .int .i64 0, .int .i64 0] := ⟨.agg #[.int .i64 0, .int .i64 0, .int .i64 0, .int .i64 0, .int .i64 0, .int .i64 0, .int .i64 0, .int .i64 0, .int .i64 0, .int .i64 0, .int .i64 0, .int .i64 0], by kernel_rfl, rfl⟩
instance : TRow Try.prog 160 4 := ⟨⟨_, Try.underlying160, rfl⟩, by kernel_rfl⟩
instance : TFld Try.prog 160 0 0 := ⟨_, _, 0, Try.underlying160, rfl, rfl, by kernel_rfl⟩
instance : TFld Try.prog 160 1 1 := ⟨_, _, 0, Try.underlying160, rfl, rfl, by kernel_rfl⟩
instance : TFld Try.prog 160 2 2 := ⟨_, _, 0, Try.underlying160, rfl, rfl, by kernel_rfl⟩
instance : TFld Try.prog 160 3 3 := ⟨_, _, 0, Try.underlying160, rfl, rfl, by kernel_rfl⟩
instance : TEq Try.prog 160 [0, 0, 0, 0] := ⟨by kernel_rfl, by kernel_rfl, _, Try.underlying160⟩
instance : TEl Try.prog 160 4 32 (.agg #[.int .i64 0, .int .i64 0, .int .i64 0, .int .i64 0]) := ⟨by kernel_rfl, rfl, by decide⟩
instance : TZero Try.prog 160 [.int .i64 0, .int .i64 0, .int .i64 0, .int .i64 0] := ⟨.agg #[.int .i64 0, .int .i64 0, .int .i64 0, .int .i64 0], by kernel_rfl, rfl⟩
instance : TRow Try.prog 161 60 := ⟨⟨_, Try.underlying161, rfl⟩, by kernel_rfl⟩
instance : TFld Try.prog 161 0 0 := ⟨_, _, 0, Try.underlying161, rfl, rfl, by kernel_rfl⟩
instance : TFld Try.prog 161 1 1 := ⟨_, _, 0, Try.underlying161, rfl, rfl, by kernel_rfl⟩
instance : TFld Try.prog 161 2 2 := ⟨_, _, 0, Try.underlying161, rfl, rfl, by kernel_rfl⟩
instance : TFld Try.prog 161 3 3 := ⟨_, _, 0, Try.underlying161, rfl, rfl, by kernel_rfl⟩
instance : TFld Try.prog 161 4 4 := ⟨_, _, 0, Try.underlying161, rfl, rfl, by kernel_rfl⟩
instance : TFld Try.prog 161 5 5 := ⟨_, _, 0, Try.underlying161, rfl, rfl, by kernel_rfl⟩
instance : TFld Try.prog 161 6 6 := ⟨_, _, 0, Try.underlying161, rfl, rfl, by kernel_rfl⟩
instance : TFld Try.prog 161 7 7 := ⟨_, _, 0, Try.underlying161, rfl, rfl, by kernel_rfl⟩
instance : TFld Try.prog 161 8 8 := ⟨_, _, 0, Try.underlying161, rfl, rfl, by kernel_rfl⟩
instance : TFld Try.prog 161 9 9 := ⟨_, _, 0, Try.underlying161, rfl, rfl, by kernel_rfl⟩
instance : TFld Try.prog 161 10 10 := ⟨_, _, 0, Try.underlying161, rfl, rfl, by kernel_rfl⟩
instance : TFld Try.prog 161 11 11 := ⟨_, _, 1, Try.underlying161, rfl, rfl, by kernel_rfl⟩
instance : TFld Try.prog 161 12 13 := ⟨_, _, 1, Try.underlying161, rfl, rfl, by kernel_rfl⟩
instance : TFld Try.prog 161 13 15 := ⟨_, _, 1, Try.underlying161, rfl, rfl, by kernel_rfl⟩
instance : TFld Try.prog 161 14 17 := ⟨_, _, 1, Try.underlying161, rfl, rfl, by kernel_rfl⟩
instance : TFld Try.prog 161 15 19 := ⟨_, _, 1, Try.underlying161, rfl, rfl, by kernel_rfl⟩
instance : TFld Try.prog 161 16 21 := ⟨_, _, 1, Try.underlying161, rfl, rfl, by kernel_rfl⟩
instance : TFld Try.prog 161 17 23 := ⟨_, _, 1, Try.underlying161, rfl, rfl, by kernel_rfl⟩
instance : TFld Try.prog 161 18 25 := ⟨_, _, 0, Try.underlying161, rfl, rfl, by kernel_rfl⟩
instance : TFld Try.prog 161 19 26 := ⟨_, _, 11, Try.underlying161, rfl, rfl, by kernel_rfl⟩
instance : TFld Try.prog 161 20 38 := ⟨_, _, 11, Try.underlying161, rfl, rfl, by kernel_rfl⟩
instance : TFld Try.prog 161 21 50 := ⟨_, _, 3, Try.underlying161, rfl, rfl, by kernel_rfl⟩
instance : TFld Try.prog 161 22 54 := ⟨_, _, 3, Try.underlying161, rfl, rfl, by kernel_rfl⟩
instance : TFld Try.prog 161 23 58 := ⟨_, _, 0, Try.underlying161, rfl, rfl, by kernel_rfl⟩
instance : TFld Try.prog 161 24 59 := ⟨_, _, 0, Try.underlying161, rfl, rfl, by kernel_rfl⟩
instance : TEq Try.prog 161 [0, 0, 0, 0, 0, 0, 1, 1, 0, 0, 0, 0, 0, 0, 0, 0, 0, 0, 0, 0, 0, 0, 0, 0, 0, 0, 0, 0, 0, 0, 0, 0, 0, 0, 0, 0, 0, 0, 0, 0, 0, 0, 0, 0, 0, 0, 0, 0, 0, 0, 0, 0, 0, 0, 0, 0, 0, 0, 0, 0] := ⟨by kernel_rfl, by kernel_rfl, _, Try.underlying161⟩
instance : TEl Try.prog 161 60 472 (.agg #[.int .i64 0, .int .i64 0, .int .i64 0, .int .i64 0, .int .i64 0, .int .i64 0, .bool false, .bool false, .int .i64 0, .int .i64 0, .int .i64 0, .int .i64 0, .int .i64 0, .int .i64 0, .int .i64 0, .int .i64 0, .int .i64 0, .int .i64 0, .int .i64 0, .int .i64 0, .int .i64 0, .int .i64 0, .int .i64 0, .int .i64 0, .int .i64 0, .int .i64 0, .int .i64 0, .int .i64 0, .int .i64 0, .int .i64 0, .int .i64 0, .int .i64 0, .int .i64 0, .int .i64 0, .int .i64 0, .int .i64 0, .int .i64 0, .int .i64 0, .int .i64 0, .int .i64 0, .int .i64 0, .int .i64 0, .int .i64 0, .int .i64 0, .int .i64 0, .int .i64 0, .int .i64 0, .int .i64 0, .int .i64 0, .int .i64 0, .int .i64 0, .int .i64 0, .int .i64 0, .int .i64 0, .int .i64 0, .int .i64 0, .int .i64 0, .int .i64 0, .int .i64 0, .int .i64 0]) := ⟨by kernel_rfl, rfl, by decide⟩
instance : TZero Try.prog 161 [.int .i64 0, .int .i64 0, .int .i64 0, .int .i64 0, .int .i64 0, .int .i64 0, .bool false, .bool false, .int .i64 0, .int .i64 0, .int .i64 0, .int .i64 0, .int .i64 0, .int .i64 0, .int .i64 0, .int .i64 0, .int .i64 0, .int .i64 0, .int .i64 0, .int .i64 0, .int .i64 0, .int .i64 0, .int .i64 0, .int .i64 0, .int .i64 0, .int .i64 0, .int .i64 0, .int .i64 0, .int .i64 0, .int .i64 0, .int .i64 0, .int .i64 0, .int .i64 0, .int .i64 0, .int .i64 0, .int .i64 0, .int .i64 0, .int .i64 0, .int .i64 0, .int .i64 0, .int .i64 0, .int .i64 0, .int .i64 0, .int .i64 0, .int .i64 0, .int .i64 0, .int .i64 0, .int .i64 0, .int .i64 0, .int .i64 0, .int .i64 0, .int .i64 0, .int .i64 0, .int .i64 0, .int .i64 0, .int .i64 0, .int .i64 0, .int .i64 0, .int .i64 0, .int .i64 0] := ⟨.agg #[.int .i64 0, .int .i64 0, .int .i64 0, .int .i64 0, .int .i64 0, .int .i64 0, .bool false, .bool false, .int .i64 0, .int .i64 0, .int .i64 0, .int .i64 0, .int .i64 0, .int .i64 0, .int .i64 0, .int .i64 0, .int .i64 0, .int .i64 0, .int .i64 0, .int .i64 0, .int .i64 0, .int .i64 0, .int .i64 0, .int .i64 0, .int .i64 0, .int .i64 0, .int .i64 0, .int .i64 0, .int .i64 0, .int .i64 0, .int .i64 0, .int .i64 0, .int .i64 0, .int .i64 0, .int .i64 0, .int .i64 0, .int .i64 0, .int .i64 0, .int .i64 0, .int .i64 0, .int .i64 0, .int .i64 0, .int .i64 0, .int .i64 0, .int .i64 0, .int .i64 0, .int .i64 0, .int .i64 0, .int .i64 0, .int .i64 0, .int .i64 0, .int .i64 0, .int .i64 0, .int .i64 0, .int .i64 0, .int .i64 0, .int .i64 0, .int .i64 0, .int .i64 0, .int .i64 0], by kernel_rfl, rfl⟩
instance : TRow Try.prog 162 60 := ⟨⟨_, Try.underlying162, rfl⟩, by kernel_rfl⟩
instance : TFld Try.prog 162 0 0 := ⟨_, _, 0, Try.underlying162, rfl, rfl, by kernel_rfl⟩
instance : TFld Try.prog 162 1 1 := ⟨_, _, 0, Try.underlying162, rfl, rfl, by kernel_rfl⟩
instance : TFld Try.prog 162 2 2 := ⟨_, _, 0, Try.underlying162, rfl, rfl, by kernel_rfl⟩
instance : TFld Try.prog 162 3 3 := ⟨_, _, 0, Try.underlying162, rfl, rfl, by kernel_rfl⟩
instance : TFld Try.prog 162 4 4 := ⟨_, _, 0, Try.underlying162, rfl, rfl, by kernel_rfl⟩
instance : TFld Try.prog 162 5 5 := ⟨_, _, 0, Try.underlying162, rfl, rfl, by kernel_rfl⟩
instance : TFld Try.prog 162 6 6 := ⟨_, _, 0, Try.underlying162, rfl, rfl, by kernel_rfl⟩
instance : TFld Try.prog 162 7 7 := ⟨_, _, 0, Try.underlying162, rfl, rfl, by kernel_rfl⟩
instance : TFld Try.prog 162 8 8 := ⟨_, _, 0, Try.underlying162, rfl, rfl, by kernel_rfl⟩
instance : TFld Try.prog 162 9 9 := ⟨_, _, 0, Try.underlying162, rfl, rfl, by kernel_rfl⟩
instance : TFld Try.prog 162 10 10 := ⟨_, _, 0, Try.underlying162, rfl, rfl, by kernel_rfl⟩
instance : TFld Try.prog 162 11 11 := ⟨_, _, 1, Try.underlying162, rfl, rfl, by kernel_rfl⟩
instance : TFld Try.prog 162 12 13 := ⟨_, _, 1, Try.underlying162, rfl, rfl, by kernel_rfl⟩
instance : TFld Try.prog 162 13 15 := ⟨_, _, 1, Try.underlying162, rfl, rfl, by kernel_rfl⟩
instance : TFld Try.prog 162 14 17 := ⟨_, _, 1, Try.underlying162, rfl, rfl, by kernel_rfl⟩
instance : TFld Try.prog 162 15 19 := ⟨_, _, 1, Try.underlying162, rfl, rfl, by kernel_rfl⟩
instance : TFld Try.prog 162 16 21 := ⟨_, _, 1, Try.underlying162, rfl, rfl, by kernel_rfl⟩
instance : TFld Try.prog 162 17 23 := ⟨_, _, 1, Try.underlying162, rfl, rfl, by kernel_rfl⟩
instance : TFld Try.prog 162 18 25 := ⟨_, _, 0, Try.underlying162, rfl, rfl, by kernel_rfl⟩
instance : TFld Try.prog 162 19 26 := ⟨_, _, 11, Try.underlying162, rfl, rfl, by kernel_rfl⟩
instance : TFld Try.prog 162 20 38 := ⟨_, _, 11, Try.underlying162, rfl, rfl, by kernel_rfl⟩
instance : TFld Try.prog 162 21 50 := ⟨_, _, 3, Try.underlying162, rfl, rfl, by kernel_rfl⟩
instance : TFld Try.prog 162 22 54 := ⟨_, _, 3, Try.underlying162, rfl, rfl, by kernel_rfl⟩
instance : TFld Try.prog 162 23 58 := ⟨_, _, 0, Try.underlying162, rfl, rfl, by kernel_rfl⟩
instance : TFld Try.prog 162 24 59 := ⟨_, _, 0, Try.underlying162, rfl, rfl, by kernel_rfl⟩
instance : TEq Try.prog 162 [0, 0, 0, 0, 0, 0, 1, 1, 0, 0, 0, 0, 0, 0, 0, 0, 0, 0, 0, 0, 0, 0, 0, 0, 0, 0, 0, 0, 0, 0, 0, 0, 0, 0, 0, 0, 0, 0, 0, 0, 0, 0, 0, 0, 0, 0, 0, 0, 0, 0, 0, 0, 0, 0, 0, 0, 0, 0, 0, 0] := ⟨by kernel_rfl, by kernel_rfl, _, Try.underlying162⟩
instance : TEl Try.prog 162 60 472 (.agg #[.int .i64 0, .int .i64 0, .int .i64 0, .int .i64 0, .int .i64 0, .int .i64 0, .bool false, .bool false, .int .i64 0, .int .i64 0, .int .i64 0, .int .i64 0, .int .i64 0, .int .i64 0, .int .i64 0, .int .i64 0, .int .i64 0, .int .i64 0, .int .i64 0, .int .i64 0, .int .i64 0, .int .i64 0, .int .i64 0, .int .i64 0, .int .i64 0, .int .i64 0, .int .i64 0, .int .i64 0, .int .i64 0, .int .i64 0, .int .i64 0, .int .i64 0, .int .i64 0, .int .i64 0, .int .i64 0, .int .i64 0, .int .i64 0, .int .i64 0, .int .i64 0, .int .i64 0, .int .i64 0, .int .i64 0, .int .i64 0, .int .i64 0, .int .i64 0, .int .i64 0, .int .i64 0, .int .i64 0, .int .i64 0, .int .i64 0, .int .i64 0, .int .i64 0, .int .i64 0, .int .i64 0, .int .i64 0, .int .i64 0, .int .i64 0, .int .i64 0, .int .i64 0, .int .i64 0]) := ⟨by kernel_rfl, rfl, by decide⟩
instance : TZero Try.prog 162 [.int .i64 0, .int .i64 0, .int .i64 0, .int .i64 0, .int .i64 0, .int .i64 0, .bool false, .bool false, .int .i64 0, .int .i64 0, .int .i64 0, .int .i64 0, .int .i64 0, .int .i64 0, .int .i64 0, .int .i64 0, .int .i64 0, .int .i64 0, .int .i64 0, .int .i64 0, .int .i64 0, .int .i64 0, .int .i64 0, .int .i64 0, .int .i64 0, .int .i64 0, .int .i64 0, .int .i64 0, .int .i64 0, .int .i64 0, .int .i64 0, .int .i64 0, .int .i64 0, .int .i64 0, .int .i64 0, .int .i64 0, .int .i64 0, .int .i64 0, .int .i64 0, .int .i64 0, .int .i64 0, .int .i64 0, .int .i64 0, .int .i64 0, .int .i64 0, .int .i64 0, .int .i64 0, .int .i64 0, .int .i64 0, .int .i64 0, .int .i64 0, .int .i64 0, .int .i64 0, .int .i64 0, .int .i64 0, .int .i64 0, .int .i64 0, .int .i64 0, .int .i64 0, .int .i64 0] := ⟨.agg #[.int .i64 0, .int .i64 0, .int .i64 0, .int .i64 0, .int .i64 0, .int .i64 0, .bool false, .bool false, .int .i64 0, .int .i64 0, .int .i64 0, .int .i64 0, .int .i64 0, .int .i64 0, .int .i64 0, .int .i64 0, .int .i64 0, .int .i64 0, .int .i64 0, .int .i64 0, .int .i64 0, .int .i64 0, .int .i64 0, .int .i64 0, .int .i64 0, .int .i64 0, .int .i64 0, .int .i64 0, .int .i64 0, .int .i64 0, .int .i64 0, .int .i64 0, .int .i64 0, .int .i64 0, .int .i64 0, .int .i64 0, .int .i64 0, .int .i64 0, .int .i64 0, .int .i64 0, .int .i64 0, .int .i64 0, .int .i64 0, .int .i64 0, .int .i64 0, .int .i64 0, .int .i64 0, .int .i64 0, .int .i64 0, .int .i64 0, .int .i64 0, .int .i64 0, .int .i64 0, .int .i64 0, .int .i64 0, .int .i64 0, .int .i64 0, .int .i64 0, .int .i64 0, .int .i64 0], by kernel_rfl, rfl⟩
instance : TOne Try.prog 163 := ⟨⟨_, Try.underlying163, rfl⟩, by kernel_rfl⟩
instance : TSl Try.prog 163 221 3 := ⟨Try.underlying163, by kernel_rfl⟩
instance : TEl Try.prog 163 1 24 (.slice none 0 0) := ⟨by kernel_rfl, rfl, by decide⟩
instance : TZero Try.prog 163 [.slice none 0 0] := ⟨.slice none 0 0, by kernel_rfl, rfl⟩
instance : TRow Try.prog 164 1 := ⟨⟨_, Try.underlying164, rfl⟩, by kernel_rfl⟩
instance : TFld Try.prog 164 0 0 := ⟨_, _, 0, Try.underlying164, rfl, rfl, by kernel_rfl⟩
instance : TEl Try.prog 164 1 24 (.agg #[.slice none 0 0]) := ⟨by kernel_rfl, rfl, by decide⟩
instance : TZero Try.prog 164 [.slice none 0 0] := ⟨.agg #[.slice none 0 0], by kernel_rfl, rfl⟩
instance : TRow Try.prog 165 1 := ⟨⟨_, Try.underlying165, rfl⟩, by kernel_rfl⟩
instance : TFld Try.prog 165 0 0 := ⟨_, _, 0, Try.underlying165, rfl, rfl, by kernel_rfl⟩
instance : TEl Try.prog 165 1 24 (.agg #[.slice none 0 0]) := ⟨by kernel_rfl, rfl, by decide⟩
instance : TZero Try.prog 165 [.slice none 0 0] := ⟨.agg #[.slice none 0 0], by kernel_rfl, rfl⟩
instance : TRow Try.prog 166 64 := ⟨⟨_, Try.underlying166, rfl⟩, by kernel_rfl⟩
instance : TFld Try.prog 166 0 0 := ⟨_, _, 0, Try.underlying166, rfl, rfl, by kernel_rfl⟩
instance : TFld Try.prog 166 1 1 := ⟨_, _, 0, Try.underlying166, rfl, rfl, by kernel_rfl⟩
instance : TFld Try.prog 166 2 2 := ⟨_, _, 59, Try.underlying166, rfl, rfl, by kernel_rfl⟩
instance : TFld Try.prog 166 3 62 := ⟨_, _, 0, Try.underlying166, rfl, rfl, by kernel_rfl⟩
instance : TFld Try.prog 166 4 63 := ⟨_, _, 0, Try.underlying166, rfl, rfl, by kernel_rfl⟩
instance : TEl Try.prog 166 64 536 (.agg #[.int .i64 0, .slice none 0 0, .int .i64 0, .int .i64 0, .int .i64 0, .int .i64 0, .int .i64 0, .int .i64 0, .bool false, .bool false, .int .i64 0, .int .i64 0, .int .i64 0, .int .i64 0, .int .i64 0, .int .i64 0, .int .i64 0, .int .i64 0, .int .i64 0, .int .i64 0, .int .i64 0, .int .i64 0, .int .i64 0, .int .i64 0, .int .i64 0, .int .i64 0, .int .i64 0, .int .i64 0, .int .i64 0, .int .i64 0, .int .i64 0, .int .i64 0, .int .i64 0, .int .i64 0, .int .i64 0, .int .i64 0, .int .i64 0, .int .i64 0, .int .i64 0, .int .i64 0, .int .i64 0, .int .i64 0, .int .i64 0, .int .i64 0, .int .i64 0, .int .i64 0, .int .i64 0, .int .i64 0, .int .i64 0, .int .i64 0, .int .i64 0, .int .i64 0, .int .i64 0, .int .i64 0, .int .i64 0, .int .i64 0, .int .i64 0, .int .i64 0, .int .i64 0, .int .i64 0, .int .i64 0, .int .i64 0, .bool false, .slice none 0 0]) := ⟨by kernel_rfl, rfl, by decide⟩
instance : TZero Try.prog 166 [.int .i64 0, .slice none 0 0, .int .i64 0, .int .i64 0, .int .i64 0, .int .i64 0, .int .i64 0, .int .i64 0, .bool false, .bool false, .int .i64 0, .int .i64 0, .int .i64 0, .int .i64 0, .int .i64 0, .int .i64 0, .int .i64 0, .int .i64 0, .int .i64 0, .int .i64 0, .int .i64 0, .int .i64 0, .int .i64 0, .int .i64 0, .int .i64 0, .int .i64 0, .int .i64 0, .int .i64 0, .int .i64 0, .int .i64 0, .int .i64 0, .int .i64 0, .int .i64 0, .int .i64 0, .int .i64 0, .int .i64 0, .int .i64 0, .int .i64 0, .int .i64 0, .int .i64 0, .int .i64 0, .int .i64 0, .int .i64 0, .int .i64 0, .int .i64 0, .int .i64 0, .int .i64 0, .int .i64 0, .int .i64 0, .int .i64 0, .int .i64 0, .int .i64 0, .int .i64 0, .int .i64 0, .int .i64 0, .int .i64 0, .int .i64 0, .int .i64 0, .int .i64 0, .int .i64 0, .int .i64 0, .int .i64 0, .bool false, .slice none 0 0] := ⟨.agg #[.int .i64 0, .slice none 0 0, .int .i64 0, .int .i64 0, .int .i64 0, .int .i64 0, .int .i64 0, .int .i64 0, .bool false, .bool false, .int .i64 0, .int .i64 0, .int .i64 0, .int .i64 0, .int .i64 0, .int .i64 0, .int .i64 0, .int .i64 0, .int .i64 0, .int .i64 0, .int .i64 0, .int .i64 0, .int .i64 0, .int .i64 0, .int .i64 0, .int .i64 0, .int .i64 0, .int .i64 0, .int .i64 0, .int .i64 0, .int .i64 0, .int .i64 0, .int .i64 0, .int .i64 0, .int .i64 0, .int .i64 0, .int .i64 0, .int .i64 0, .int .i64 0, .int .i64 0, .int .i64 0, .int .i64 0, .int .i64 0, .int .i64 0, .int .i64 0, .int .i64 0, .int .i64 0, .int .i64 0, .int .i64 0, .int .i64 0, .int .i64 0, .int .i64 0, .int .i64 0, .int .i64 0, .int .i64 0, .int .i64 0, .int .i64 0, .int .i64 0, .int .i64 0, .int .i64 0, .int .i64 0, .int .i64 0, .bool false, .slice none 0 0], by kernel_rfl, rfl⟩
instance : TRow Try.prog 167 64 := ⟨⟨_, Try.underlying167, rfl⟩, by kernel_rfl⟩
instance : TFld Try.prog 167 0 0 := ⟨_, _, 0, Try.underlying167, rfl, rfl, by kernel_rfl⟩
instance : TFld Try.prog 167 1 1 := ⟨_, _, 0, Try.underlying167, rfl, rfl, by kernel_rfl⟩
instance : TFld Try.prog 167 2 2 := ⟨_, _, 59, Try.underlying167, rfl, rfl, by kernel_rfl⟩
instance : TFld Try.prog 167 3 62 := ⟨_, _, 0, Try.underlying167, rfl, rfl, by kernel_rfl⟩
instance : TFld Try.prog 167 4 63 := ⟨_, _, 0, Try.underlying167, rfl, rfl, by kernel_rfl⟩
instance : TEl Try.prog 167 64 536 (.agg #[.int .i64 0, .slice none 0 0, .int .i64 0, .int .i64 0, .int .i64 0, .int .i64 0, .int .i64 0, .int .i64 0, .bool false, .bool false, .int .i64 0, .int .i64 0, .int .i64 0, .int .i64 0, .int .i64 0, .int .i64 0, .int .i64 0, .int .i64 0, .int .i64 0, .int .i64 0, .int .i64 0, .int .i64 0, .int .i64 0, .int .i64 0, .int .i64 0, .int .i64 0, .int .i64 0, .int .i64 0, .int .i64 0, .int .i64 0, .int .i64 0, .int .i64 0, .int .i64 0, .int .i64 0, .int .i64 0, .int .i64 0, .int .i64 0, .int .i64 0, .int .i64 0, .int .i64 0, .int .i64 0, .int .i64 0, .int .i64 0, .int .i64 0, .int .i64 0, .int .i64 0, .int .i64 0, .int .i64 0, .int .i64 0, .int .i64 0, .int .i64 0, .int .i64 0, .int .i64 0, .int .i64 0, .int .i64 0, .int .i64 0, .int .i64 0, .int .i64 0, .int .i64 0, .int .i64 0, .int .i64 0, .int .i64 0, .bool false, .slice none 0 0]) := ⟨by kernel_rfl, rfl, by decide⟩
instance : TZero Try.prog 167 [.int .i64 0, .slice none 0 0, .int .i64 0, .int .i64 0, .int .i64 0, .int .i64 0, .int .i64 0, .int .i64 0, .bool false, .bool false, .int .i64 0, .int .i64 0, .int .i64 0, .int .i64 0, .int .i64 0, .int .i64 0, .int .i64 0, .int .i64 0, .int .i64 0, .int .i64 0, .int .i64 0, .int .i64 0, .int .i64 0, .int .i64 0, .int .i64 0, .int .i64 0, .int .i64 0, .int .i64 0, .int .i64 0, .int .i64 0, .int .i64 0, .int .i64 0, .int .i64 0, .int .i64 0, .int .i64 0, .int .i64 0, .int .i64 0, .int .i64 0, .int .i64 0, .int .i64 0, .int .i64 0, .int .i64 0, .int .i64 0, .int .i64 0, .int .i64 0, .int .i64 0, .int .i64 0, .int .i64 0, .int .i64 0, .int .i64 0, .int .i64 0, .int .i64 0, .int .i64 0, .int .i64 0, .int .i64 0, .int .i64 0, .int .i64 0, .int .i64 0, .int .i64 0, .int .i64 0, .int .i64 0, .int .i64 0, .bool false, .slice none 0 0] := ⟨.agg #[.int .i64 0, .slice none 0 0, .int .i64 0, .int .i64 0, .int .i64 0, .int .i64 0, .int .i64 0, .int .i64 0, .bool false, .bool false, .int .i64 0, .int .i64 0, .int .i64 0, .int .i64 0, .int .i64 0, .int .i64 0, .int .i64 0, .int .i64 0, .int .i64 0, .int .i64 0, .int .i64 0, .int .i64 0, .int .i64 0, .int .i64 0, .int .i64 0, .int .i64 0, .int .i64 0, .int .i64 0, .int .i64 0, .int .i64 0, .int .i64 0, .int .i64 0, .int .i64 0, .int .i64 0, .int .i64 0, .int .i64 0, .int .i64 0, .int .i64 0, .int .i64 0, .int .i64 0, .int .i64 0, .int .i64 0, .int .i64 0, .int .i64 0, .int .i64 0, .int .i64 0, .int .i64 0, .int .i64 0, .int .i64 0, .int .i64 0, .int .i64 0, .int .i64 0, .int .i64 0, .int .i64 0, .int .i64 0, .int .i64 0, .int .i64 0, .int .i64 0, .int .i64 0, .int .i64 0, .int .i64 0, .int .i64 0, .bool false, .slice none 0 0], by kernel_rfl, rfl⟩
instance : TRow Try.prog 169 2 := ⟨⟨_, Try.underlying169, rfl⟩, by kernel_rfl⟩
instance : TFld Try.prog 169 0 0 := ⟨_, _, 0, Try.underlying169, rfl, rfl, by kernel_rfl⟩
instance : TFld Try.prog 169 1 1 := ⟨_, _, 0, Try.underlying169, rfl, rfl, by kernel_rfl⟩
instance : TEq Try.prog 169 [0, 0] := ⟨by kernel_rfl, by kernel_rfl, _, Try.underlying169⟩
instance : TEl Try.prog 169 2 16 (.agg #[.int .i64 0, .int .i64 0]) := ⟨by kernel_rfl, rfl, by decide⟩
instance : TZero Try.prog 169 [.int .i64 0, .int .i64 0] := ⟨.agg #[.int .i64 0, .int .i64 0], by kernel_rfl, rfl⟩
instance : TRow Try.prog 170 4 := ⟨⟨_, Try.underlying170, rfl⟩, by kernel_rfl⟩
instance : TFld Try.prog 170 0 0 := ⟨_, _, 0, Try.underlying170, rfl, rfl, by kernel_rfl⟩
instance : TFld Try.prog 170 1 1 := ⟨_, _, 0, Try.underlying170, rfl, rfl, by kernel_rfl⟩
instance : TFld Try.prog 170 2 2 := ⟨_, _, 0, Try.underlying170, rfl, rfl, by kernel_rfl⟩
instance : TFld Try.prog 170 3 3 := ⟨_, _, 0, Try.underlying170, rfl, rfl, by kernel_rfl⟩
instance : TEl Try.prog 170 4 48 (.agg #[.int .i64 0, .int .i64 0, .int .i64 0, .slice none 0 0]) := ⟨by kernel_rfl, rfl, by decide⟩
instance : TZero Try.prog 170 [.int .i64 0, .int .i64 0, .int .i64 0, .slice none 0 0] := ⟨.agg #[.int .i64 0, .int .i64 0, .int .i64 0, .slice none 0 0], by kernel_rfl, rfl⟩
instance : TRow Try.prog 171 4 := ⟨⟨_, Try.underlying171, rfl⟩, by kernel_rfl⟩
instance : TFld Try.prog 171 0 0 := ⟨_, _, 0, Try.underlying171, rfl, rfl, by kernel_rfl⟩
instance : TFld Try.prog 171 1 1 := ⟨_, _, 0, Try.underlying171, rfl, rfl, by kernel_rfl⟩
instance : TFld Try.prog 171 2 2 := ⟨_, _, 0, Try.underlying171, rfl, rfl, by kernel_rfl⟩
instance : TFld Try.prog 171 3 3 := ⟨_, _, 0, Try.underlying171, rfl, rfl, by kernel_rfl⟩
instance : TEl Try.prog 171 4 48 (.agg #[.int .i64 0, .int .i64 0, .int .i64 0, .slice none 0 0]) := ⟨by kernel_rfl, rfl, by decide⟩
instance : TZero Try.prog 171 [.int .i64 0, .int .i64 0, .int .i64 0, .slice none 0 0] := ⟨.agg #[.int .i64 0, .int .i64 0, .int .i64 0, .slice none 0 0], by kernel_rfl, rfl⟩
instance : TRow Try.prog 172 10 := ⟨⟨_, Try.underlying172, rfl⟩, by kernel_rfl⟩
instance : TFld Try.prog 172 0 0 := ⟨_, _, 0, Try.underlying172, rfl, rfl, by kernel_rfl⟩
instance : TFld Try.prog 172 1 1 := ⟨_, _, 1, Try.underlying172, rfl, rfl, by kernel_rfl⟩
instance : TFld Try.prog 172 2 3 := ⟨_, _, 1, Try.underlying172, rfl, rfl, by kernel_rfl⟩
instance : TFld Try.prog 172 3 5 := ⟨_, _, 0, Try.underlying172, rfl, rfl, by kernel_rfl⟩
instance : TFld Try.prog 172 4 6 := ⟨_, _, 3, Try.underlying172, rfl, rfl, by kernel_rfl⟩
instance : TEl Try.prog 172 10 96 (.agg #[.int .i64 0, .int .i64 0, .int .i64 0, .int .i64 0, .int .i64 0, .bool false, .int .i64 0, .int .i64 0, .int .i64 0, .slice none 0 0]) := ⟨by kernel_rfl, rfl, by decide⟩
instance : TZero Try.prog 172 [.int .i64 0, .int .i64 0, .int .i64 0, .int .i64 0, .int .i64 0, .bool false, .int .i64 0, .int .i64 0, .int .i64 0, .slice none 0 0] := ⟨.agg #[.int .i64 0, .int .i64 0, .int .i64 0, .int .i64 0, .int .i64 0, .bool false, .int .i64 0, .int .i64 0, .int .i64 0, .slice none 0 0], by kernel_rfl, rfl⟩
instance : TRow Try.prog 173 10 := ⟨⟨_, Try.underlying173, rfl⟩, by kernel_rfl⟩
instance : TFld Try.prog 173 0 0 := ⟨_, _, 0, Try.underlying173, rfl, rfl, by kernel_rfl⟩
instance : TFld Try.prog 173 1 1 := ⟨_, _, 1, Try.underlying173, rfl, rfl, by kernel_rfl⟩
instance : TFld Try.prog 173 2 3 := ⟨_, _, 1, Try.underlying173, rfl, rfl, by kernel_rfl⟩
instance : TFld Try.prog 173 3 5 := ⟨_, _, 0, Try.underlying173, rfl, rfl, by kernel_rfl⟩
instance : TFld Try.prog 173 4 6 := ⟨_, _, 3, Try.underlying173, rfl, rfl, by kernel_rfl⟩
instance : TEl Try.prog 173 10 96 (.agg #[.int .i64 0, .int .i64 0, .int .i64 0, .int .i64 0, .int .i64 0, .bool false, .int .i64 0, .int .i64 0, .int .i64 0, .slice none 0 0]) := ⟨by kernel_rfl, rfl, by decide⟩
instance : TZero Try.prog 173 [.int .i64 0, .int .i64 0, .int .i64 0, .int .i64 0, .int .i64 0, .bool false, .int .i64 0, .int .i64 0, .int .i64 0, .slice none 0 0] := ⟨.agg #[.int .i64 0, .int .i64 0, .int .i64 0, .int .i64 0, .int .i64 0, .bool false, .int .i64 0, .int .i64 0, .int .i64 0, .slice none 0 0], by kernel_rfl, rfl⟩
instance : TRow Try.prog 175 4 := ⟨⟨_, Try.underlying175, rfl⟩, by kernel_rfl⟩
instance : TFld Try.prog 175 0 0 := ⟨_, _, 0, Try.underlying175, rfl, rfl, by kernel_rfl⟩
instance : TFld Try.prog 175 1 1 := ⟨_, _, 0, Try.underlying175, rfl, rfl, by kernel_rfl⟩
instance : TFld Try.prog 175 2 2 := ⟨_, _, 0, Try.underlying175, rfl, rfl, by kernel_rfl⟩
instance : TFld Try.prog 175 3 3 := ⟨_, _, 0, Try.underlying175, rfl, rfl, by kernel_rfl⟩
instance : TEl Try.prog 175 4 48 (.agg #[.int .i64 0, .int .i64 0, .int .i64 0, .slice none 0 0]) := ⟨by kernel_rfl, rfl, by decide⟩
instance : TZero Try.prog 175 [.int .i64 0, .int .i64 0, .int .i64 0, .slice none 0 0] := ⟨.agg #[.int .i64 0, .int .i64 0, .int .i64 0, .slice none 0 0], by kernel_rfl, rfl⟩
instance : TRow Try.prog 176 4 := ⟨⟨_, Try.underlying176, rfl⟩, by kernel_rfl⟩
instance : TFld Try.prog 176 0 0 := ⟨_, _, 0, Try.underlying176, rfl, rfl, by kernel_rfl⟩
instance : TFld Try.prog 176 1 1 := ⟨_, _, 0, Try.underlying176, rfl, rfl, by kernel_rfl⟩
instance : TFld Try.prog 176 2 2 := ⟨_, _, 0, Try.underlying176, rfl, rfl, by kernel_rfl⟩
instance : TFld Try.prog 176 3 3 := ⟨_, _, 0, Try.underlying176, rfl, rfl, by kernel_rfl⟩
instance : TEl Try.prog 176 4 48 (.agg #[.int .i64 0, .int .i64 0, .int .i64 0, .slice none 0 0]) := ⟨by kernel_rfl, rfl, by decide⟩
instance : TZero Try.prog 176 [.int .i64 0, .int .i64 0, .int .i64 0, .slice none 0 0] := ⟨.agg #[.int .i64 0, .int .i64 0, .int .i64 0, .slice none 0 0], by kernel_rfl, rfl⟩
instance : TRow Try.prog 177 10 := ⟨⟨_, Try.underlying177, rfl⟩, by kernel_rfl⟩
instance : TFld Try.prog 177 0 0 := ⟨_, _, 0, Try.underlying177, rfl, rfl, by kernel_rfl⟩
instance : TFld Try.prog 177 1 1 := ⟨_, _, 1, Try.underlying177, rfl, rfl, by kernel_rfl⟩
instance : TFld Try.prog 177 2 3 := ⟨_, _, 1, Try.underlying177, rfl, rfl, by kernel_rfl⟩
instance : TFld Try.prog 177 3 5 := ⟨_, _, 0, Try.underlying177, rfl, rfl, by kernel_rfl⟩
instance : TFld Try.prog 177 4 6 := ⟨_, _, 3, Try.underlying177, rfl, rfl, by kernel_rfl⟩
instance : TEl Try.prog 177 10 96 (.agg #[.int .i64 0, .int .i64 0, .int .i64 0, .int .i64 0, .int .i64 0, .bool false, .int .i64 0, .int .i64 0, .int .i64 0, .slice none 0 0]) := ⟨by kernel_rfl, rfl, by decide⟩
instance : TZero Try.prog 177 [.int .i64 0, .int .i64 0, .int .i64 0, .int .i64 0, .int .i64 0, .bool false, .int .i64 0, .int .i64 0, .int .i64 0, .slice none 0 0] := ⟨.agg #[.int .i64 0, .int .i64 0, .int .i64 0, .int .i64 0, .int .i64 0, .bool false, .int .i64 0, .int .i64 0, .int .i64 0, .slice none 0 0], by kernel_rfl, rfl⟩
instance : TRow Try.prog 178 10 := ⟨⟨_, Try.underlying178, rfl⟩, by kernel_rfl⟩
instance : TFld Try.prog 178 0 0 := ⟨_, _, 0, Try.underlying178, rfl, rfl, by kernel_rfl⟩
instance : TFld Try.prog 178 1 1 := ⟨_, _, 1, Try.underlying178, rfl, rfl, by kernel_rfl⟩
instance : TFld Try.prog 178 2 3 := ⟨_, _, 1, Try.underlying178, rfl, rfl, by kernel_rfl⟩
instance : TFld Try.prog 178 3 5 := ⟨_, _, 0, Try.underlying178, rfl, rfl, by kernel_rfl⟩
instance : TFld Try.prog 178 4 6 := ⟨_, _, 3, Try.underlying178, rfl, rfl, by kernel_rfl⟩
instance : TEl Try.prog 178 10 96 (.agg #[.int .i64 0, .int .i64 0, .int .i64 0, .int .i64 0, .int .i64 0, .bool false, .int .i64 0, .int .i64 0, .int .i64 0, .slice none 0 0]) := ⟨by kernel_rfl, rfl, by decide⟩
instance : TZero Try.prog 178 [.int .i64 0, .int .i64 0, .int .i64 0, .int .i64 0, .int .i64 0, .bool false, .int .i64 0, .int .i64 0, .int .i64 0, .slice none 0 0] := ⟨.agg #[.int .i64 0, .int .i64 0, .int .i64 0, .int .i64 0, .int .i64 0, .bool false, .int .i64 0, .int .i64 0, .int .i64 0, .slice none 0 0], by kernel_rfl, rfl⟩
instance : TRow Try.prog 181 6 := ⟨⟨_, Try.underlying181, rfl⟩, by kernel_rfl⟩
instance : TFld Try.prog 181 0 0 := ⟨_, _, 0, Try.underlying181, rfl, rfl, by kernel_rfl⟩
instance : TFld Try.prog 181 1 1 := ⟨_, _, 1, Try.underlying181, rfl, rfl, by kernel_rfl⟩
instance : TFld Try.prog 181 2 3 := ⟨_, _, 1, Try.underlying181, rfl, rfl, by kernel_rfl⟩
instance : TFld Try.prog 181 3 5 := ⟨_, _, 0, Try.underlying181, rfl, rfl, by kernel_rfl⟩
instance : TEq Try.prog 181 [0, 0, 0, 0, 0, 1] := ⟨by kernel_rfl, by kernel_rfl, _, Try.underlying181⟩
instance : TEl Try.prog 181 6 48 (.agg #[.int .i64 0, .int .i64 0, .int .i64 0, .int .i64 0, .int .i64 0, .bool false]) := ⟨by kernel_rfl, rfl, by decide⟩
instance : TZero Try.prog 181 [.int .i64 0, .int .i64 0, .int .i64 0, .int .i64 0, .int .i64 0, .bool false] := ⟨.agg #[.int .i64 0, .int .i64 0, .int .i64 0, .int .i64 0, .int .i64 0, .bool false], by kernel_rfl, rfl⟩
instance : TRow Try.prog 182 6 := ⟨⟨_, Try.underlying182, rfl⟩, by kernel_rfl⟩
instance : TFld Try.prog 182 0 0 := ⟨_, _, 0, Try.underlying182, rfl, rfl, by kernel_rfl⟩
instance : TFld Try.prog 182 1 1 := ⟨_, _, 1, Try.underlying182, rfl, rfl, by kernel_rfl⟩
instance : TFld Try.prog 182 2 3 := ⟨_, _, 1, Try.underlying182, rfl, rfl, by kernel_rfl⟩
instance : TFld Try.prog 182 3 5 := ⟨_, _, 0, Try.underlying182, rfl, rfl, by kernel_rfl⟩
instance : TEq Try.prog 182 [0, 0, 0, 0, 0, 1] := ⟨by kernel_rfl, by kernel_rfl, _, Try.underlying182⟩
instance : TEl Try.prog 182 6 48 (.agg #[.int .i64 0, .int .i64 0, .int .i64 0, .int .i64 0, .int .i64 0, .bool false]) := ⟨by kernel_rfl, rfl, by decide⟩
instance : TZero Try.prog 182 [.int .i64 0, .int .i64 0, .int .i64 0, .int .i64 0, .int .i64 0, .bool false] := ⟨.agg #[.int .i64 0, .int .i64 0, .int .i64 0, .int .i64 0, .int .i64 0, .bool false], by kernel_rfl, rfl⟩
instance : TOne Try.prog 187 := ⟨⟨_, Try.underlying187, rfl⟩, by kernel_rfl⟩
instance : TEl Try.prog 187 1 8 (.int .u64 0) := ⟨by kernel_rfl, rfl, by decide⟩
instance : TZero Try.prog 187 [.int .u64 0] := ⟨.int .u64 0, by kernel_rfl, rfl⟩
instance : TRow Try.prog 188 3 := ⟨⟨_, Try.underlying188, rfl⟩, by kernel_rfl⟩
instance : TFld Try.prog 188 0 0 := ⟨_, _, 0, Try.underlying188, rfl, rfl, by kernel_rfl⟩
instance : TFld Try.prog 188 1 1 := ⟨_, _, 0, Try.underlying188, rfl, rfl, by kernel_rfl⟩
instance : TFld Try.prog 188 2 2 := ⟨_, _, 0, Try.underlying188, rfl, rfl, by kernel_rfl⟩
instance : TEl Try.prog 188 3 24 (.agg #[.pointer none, .pointer none, .int .u64 0]) := ⟨by kernel_rfl, rfl, by decide⟩
instance : TZero Try.prog 188 [.pointer none, .pointer none, .int .u64 0] := ⟨.agg #[.pointer none, .pointer none, .int .u64 0], by kernel_rfl, rfl⟩
instance : TRow Try.prog 189 3 := ⟨⟨_, Try.underlying189, rfl⟩, by kernel_rfl⟩
instance : TFld Try.prog 189 0 0 := ⟨_, _, 0, Try.underlying189, rfl, rfl, by kernel_rfl⟩
instance : TFld Try.prog 189 1 1 := ⟨_, _, 0, Try.underlying189, rfl, rfl, by kernel_rfl⟩
instance : TFld Try.prog 189 2 2 := ⟨_, _, 0, Try.underlying189, rfl, rfl, by kernel_rfl⟩
instance : TEl Try.prog 189 3 24 (.agg #[.pointer none, .pointer none, .int .u64 0]) := ⟨by kernel_rfl, rfl, by decide⟩
instance : TZero Try.prog 189 [.pointer none, .pointer none, .int .u64 0] := ⟨.agg #[.pointer none, .pointer none, .int .u64 0], by kernel_rfl, rfl⟩
instance : TRow Try.prog 194 2 := ⟨⟨_, Try.underlying194, rfl⟩, by kernel_rfl⟩
instance : TFld Try.prog 194 0 0 := ⟨_, _, 0, Try.underlying194, rfl, rfl, by kernel_rfl⟩
instance : TFld Try.prog 194 1 1 := ⟨_, _, 0, Try.underlying194, rfl, rfl, by kernel_rfl⟩
instance : TRow Try.prog 195 2 := ⟨⟨_, Try.underlying195, rfl⟩, by kernel_rfl⟩
instance : TFld Try.prog 195 0 0 := ⟨_, _, 0, Try.underlying195, rfl, rfl, by kernel_rfl⟩
instance : TFld Try.prog 195 1 1 := ⟨_, _, 0, Try.underlying195, rfl, rfl, by kernel_rfl⟩
instance : TOne Try.prog 205 := ⟨⟨_, Try.underlying205, rfl⟩, by kernel_rfl⟩
instance : TEl Try.prog 205 1 8 (.int .u64 0) := ⟨by kernel_rfl, rfl, by decide⟩
instance : TZero Try.prog 205 [.int .u64 0] := ⟨.int .u64 0, by kernel_rfl, rfl⟩
instance : TRow Try.prog 207 1 := ⟨⟨_, Try.underlying207, rfl⟩, by kernel_rfl⟩
instance : TFld Try.prog 207 0 0 := ⟨_, _, 0, Try.underlying207, rfl, rfl, by kernel_rfl⟩
instance : TEl Try.prog 207 1 8 (.agg #[.pointer none]) := ⟨by kernel_rfl, rfl, by decide⟩
instance : TZero Try.prog 207 [.pointer none] := ⟨.agg #[.pointer none], by kernel_rfl, rfl⟩
instance : TRow Try.prog 208 1 := ⟨⟨_, Try.underlying208, rfl⟩, by kernel_rfl⟩
instance : TFld Try.prog 208 0 0 := ⟨_, _, 0, Try.underlying208, rfl, rfl, by kernel_rfl⟩
instance : TEl Try.prog 208 1 8 (.agg #[.pointer none]) := ⟨by kernel_rfl, rfl, by decide⟩
instance : TZero Try.prog 208 [.pointer none] := ⟨.agg #[.pointer none], by kernel_rfl, rfl⟩
instance : TOne Try.prog 209 := ⟨⟨_, Try.underlying209, rfl⟩, by kernel_rfl⟩
instance : TPtr Try.prog 209 := ⟨⟨_, Try.underlying209⟩⟩
instance : TEl Try.prog 209 1 8 (.pointer none) := ⟨by kernel_rfl, rfl, by decide⟩
instance : TZero Try.prog 209 [.pointer none] := ⟨.pointer none, by kernel_rfl, rfl⟩
instance : TRow Try.prog 221 3 := ⟨⟨_, Try.underlying221, rfl⟩, by kernel_rfl⟩
instance : TFld Try.prog 221 0 0 := ⟨_, _, 0, Try.underlying221, rfl, rfl, by kernel_rfl⟩
instance : TFld Try.prog 221 1 1 := ⟨_, _, 0, Try.underlying221, rfl, rfl, by kernel_rfl⟩
instance : TFld Try.prog 221 2 2 := ⟨_, _, 0, Try.underlying221, rfl, rfl, by kernel_rfl⟩
instance : TEq Try.prog 221 [0, 0, 0] := ⟨by kernel_rfl, by kernel_rfl, _, Try.underlying221⟩
instance : TEl Try.prog 221 3 24 (.agg #[.int .i64 0, .int .i64 0, .int .i64 0]) := ⟨by kernel_rfl, rfl, by decide⟩
instance : TZero Try.prog 221 [.int .i64 0, .int .i64 0, .int .i64 0] := ⟨.agg #[.int .i64 0, .int .i64 0, .int .i64 0], by kernel_rfl, rfl⟩
instance : TRow Try.prog 224 4 := ⟨⟨_, Try.underlying224, rfl⟩, by kernel_rfl⟩
instance : TFld Try.prog 224 0 0 := ⟨_, _, 0, Try.underlying224, rfl, rfl, by kernel_rfl⟩
instance : TFld Try.prog 224 1 1 := ⟨_, _, 0, Try.underlying224, rfl, rfl, by kernel_rfl⟩
instance : TFld Try.prog 224 2 2 := ⟨_, _, 0, Try.underlying224, rfl, rfl, by kernel_rfl⟩
instance : TFld Try.prog 224 3 3 := ⟨_, _, 0, Try.underlying224, rfl, rfl, by kernel_rfl⟩
instance : TEl Try.prog 224 4 40 (.agg #[.pointer none, .pointer none, .pointer none, .string ⟨#[]⟩]) := ⟨by kernel_rfl, rfl, by decide⟩
instance : TZero Try.prog 224 [.pointer none, .pointer none, .pointer none, .string ⟨#[]⟩] := ⟨.agg #[.pointer none, .pointer none, .pointer none, .string ⟨#[]⟩], by kernel_rfl, rfl⟩
instance : TRow Try.prog 225 4 := ⟨⟨_, Try.underlying225, rfl⟩, by kernel_rfl⟩
instance : TFld Try.prog 225 0 0 := ⟨_, _, 0, Try.underlying225, rfl, rfl, by kernel_rfl⟩
instance : TFld Try.prog 225 1 1 := ⟨_, _, 0, Try.underlying225, rfl, rfl, by kernel_rfl⟩
instance : TFld Try.prog 225 2 2 := ⟨_, _, 0, Try.underlying225, rfl, rfl, by kernel_rfl⟩
instance : TFld Try.prog 225 3 3 := ⟨_, _, 0, Try.underlying225, rfl, rfl, by kernel_rfl⟩
instance : TEl Try.prog 225 4 40 (.agg #[.pointer none, .pointer none, .pointer none, .string ⟨#[]⟩]) := ⟨by kernel_rfl, rfl, by decide⟩
instance : TZero Try.prog 225 [.pointer none, .pointer none, .pointer none, .string ⟨#[]⟩] := ⟨.agg #[.pointer none, .pointer none, .pointer none, .string ⟨#[]⟩], by kernel_rfl, rfl⟩
instance : TOne Try.prog 229 := ⟨⟨_, Try.underlying229, rfl⟩, by kernel_rfl⟩
instance : TEl Try.prog 229 1 4 (.int .u32 0) := ⟨by kernel_rfl, rfl, by decide⟩
instance : TZero Try.prog 229 [.int .u32 0] := ⟨.int .u32 0, by kernel_rfl, rfl⟩
instance : TOne Try.prog 230 := ⟨⟨_, Try.underlying230, rfl⟩, by kernel_rfl⟩
instance : TEl Try.prog 230 1 1 (.int .u8 0) := ⟨by kernel_rfl, rfl, by decide⟩
instance : TZero Try.prog 230 [.int .u8 0] := ⟨.int .u8 0, by kernel_rfl, rfl⟩
instance : TOne Try.prog 231 := ⟨⟨_, Try.underlying231, rfl⟩, by kernel_rfl⟩
instance : TEl Try.prog 231 1 1 (.int .u8 0) := ⟨by kernel_rfl, rfl, by decide⟩
instance : TZero Try.prog 231 [.int .u8 0] := ⟨.int .u8 0, by kernel_rfl, rfl⟩
instance : TOne Try.prog 233 := ⟨⟨_, Try.underlying233, rfl⟩, by kernel_rfl⟩
instance : TPtr Try.prog 233 := ⟨⟨_, Try.underlying233⟩⟩
instance : TEl Try.prog 233 1 8 (.pointer none) := ⟨by kernel_rfl, rfl, by decide⟩
instance : TZero Try.prog 233 [.pointer none] := ⟨.pointer none, by kernel_rfl, rfl⟩
instance : TOne Try.prog 234 := ⟨⟨_, Try.underlying234, rfl⟩, by kernel_rfl⟩
instance : TEl Try.prog 234 1 4 (.int .i32 0) := ⟨by kernel_rfl, rfl, by decide⟩
instance : TZero Try.prog 234 [.int .i32 0] := ⟨.int .i32 0, by kernel_rfl, rfl⟩
instance : TOne Try.prog 235 := ⟨⟨_, Try.underlying235, rfl⟩, by kernel_rfl⟩
instance : TEl Try.prog 235 1 4 (.int .i32 0) := ⟨by kernel_rfl, rfl, by decide⟩
instance : TZero Try.prog 235 [.int .i32 0] := ⟨.int .i32 0, by kernel_rfl, rfl⟩
instance : TRow Try.prog 236 11 := ⟨⟨_, Try.underlying236, rfl⟩, by kernel_rfl⟩
instance : TFld Try.prog 236 0 0 := ⟨_, _, 0, Try.underlying236, rfl, rfl, by kernel_rfl⟩
instance : TFld Try.prog 236 1 1 := ⟨_, _, 0, Try.underlying236, rfl, rfl, by kernel_rfl⟩
instance : TFld Try.prog 236 2 2 := ⟨_, _, 0, Try.underlying236, rfl, rfl, by kernel_rfl⟩
instance : TFld Try.prog 236 3 3 := ⟨_, _, 0, Try.underlying236, rfl, rfl, by kernel_rfl⟩
instance : TFld Try.prog 236 4 4 := ⟨_, _, 0, Try.underlying236, rfl, rfl, by kernel_rfl⟩
instance : TFld Try.prog 236 5 5 := ⟨_, _, 0, Try.underlying236, rfl, rfl, by kernel_rfl⟩
instance : TFld Try.prog 236 6 6 := ⟨_, _, 0, Try.underlying236, rfl, rfl, by kernel_rfl⟩
instance : TFld Try.prog 236 7 7 := ⟨_, _, 0, Try.underlying236, rfl, rfl, by kernel_rfl⟩
instance : TFld Try.prog 236 8 8 := ⟨_, _, 0, Try.underlying236, rfl, rfl, by kernel_rfl⟩
instance : TFld Try.prog 236 9 9 := ⟨_, _, 0, Try.underlying236, rfl, rfl, by kernel_rfl⟩
instance : TFld Try.prog 236 10 10 := ⟨_, _, 0, Try.underlying236, rfl, rfl, by kernel_rfl⟩
instance : TRow Try.prog 237 11 := ⟨⟨_, Try.underlying237, rfl⟩, by kernel_rfl⟩
instance : TFld Try.prog 237 0 0 := ⟨_, _, 0, Try.underlying237, rfl, rfl, by kernel_rfl⟩
instance : TFld Try.prog 237 1 1 := ⟨_, _, 0, Try.underlying237, rfl, rfl, by kernel_rfl⟩
instance : TFld Try.prog 237 2 2 := ⟨_, _, 0, Try.underlying237, rfl, rfl, by kernel_rfl⟩
instance : TFld Try.prog 237 3 3 := ⟨_, _, 0, Try.underlying237, rfl, rfl, by kernel_rfl⟩
instance : TFld Try.prog 237 4 4 := ⟨_, _, 0, Try.underlying237, rfl, rfl, by kernel_rfl⟩
instance : TFld Try.prog 237 5 5 := ⟨_, _, 0, Try.underlying237, rfl, rfl, by kernel_rfl⟩
instance : TFld Try.prog 237 6 6 := ⟨_, _, 0, Try.underlying237, rfl, rfl, by kernel_rfl⟩
instance : TFld Try.prog 237 7 7 := ⟨_, _, 0, Try.underlying237, rfl, rfl, by kernel_rfl⟩
instance : TFld Try.prog 237 8 8 := ⟨_, _, 0, Try.underlying237, rfl, rfl, by kernel_rfl⟩
instance : TFld Try.prog 237 9 9 := ⟨_, _, 0, Try.underlying237, rfl, rfl, by kernel_rfl⟩
instance : TFld Try.prog 237 10 10 := ⟨_, _, 0, Try.underlying237, rfl, rfl, by kernel_rfl⟩
instance : TRow Try.prog 238 2 := ⟨⟨_, Try.underlying238, rfl⟩, by kernel_rfl⟩
instance : TFld Try.prog 238 0 0 := ⟨_, _, 0, Try.underlying238, rfl, rfl, by kernel_rfl⟩
instance : TFld Try.prog 238 1 1 := ⟨_, _, 0, Try.underlying238, rfl, rfl, by kernel_rfl⟩
instance : TEl Try.prog 238 2 24 (.agg #[.string ⟨#[]⟩, .int .u8 0]) := ⟨by kernel_rfl, rfl, by decide⟩
instance : TZero Try.prog 238 [.string ⟨#[]⟩, .int .u8 0] := ⟨.agg #[.string ⟨#[]⟩, .int .u8 0], by kernel_rfl, rfl⟩
instance : TRow Try.prog 239 2 := ⟨⟨_, Try.underlying239, rfl⟩, by kernel_rfl⟩
instance : TFld Try.prog 239 0 0 := ⟨_, _, 0, Try.underlying239, rfl, rfl, by kernel_rfl⟩
instance : TFld Try.prog 239 1 1 := ⟨_, _, 0, Try.underlying239, rfl, rfl, by kernel_rfl⟩
instance : TEl Try.prog 239 2 24 (.agg #[.string ⟨#[]⟩, .int .u8 0]) := ⟨by kernel_rfl, rfl, by decide⟩
instance : TZero Try.prog 239 [.string ⟨#[]⟩, .int .u8 0] := ⟨.agg #[.string ⟨#[]⟩, .int .u8 0], by kernel_rfl, rfl⟩
instance : TFun Try.prog 3 := ⟨_, Try.func3, by kernel_rfl, by kernel_rfl⟩
instance : TFun Try.prog 4 := ⟨_, Try.func4, by kernel_rfl, by kernel_rfl⟩
instance : TFun Try.prog 5 := ⟨_, Try.func5, by kernel_rfl, by kernel_rfl⟩
instance : TFun Try.prog 6 := ⟨_, Try.func6, by kernel_rfl, by kernel_rfl⟩
instance : TFun Try.prog 7 := ⟨_, Try.func7, by kernel_rfl, by kernel_rfl⟩
instance : TFun Try.prog 8 := ⟨_, Try.func8, by kernel_rfl, by kernel_rfl⟩
instance : TFun Try.prog 9 := ⟨_, Try.func9, by kernel_rfl, by kernel_rfl⟩
instance : TFun Try.prog 10 := ⟨_, Try.func10, by kernel_rfl, by kernel_rfl⟩
instance : TFun Try.prog 11 := ⟨_, Try.func11, by kernel_rfl, by kernel_rfl⟩
instance : TFun Try.prog 12 := ⟨_, Try.func12, by kernel_rfl, by kernel_rfl⟩
instance : TFun Try.prog 13 := ⟨_, Try.func13, by kernel_rfl, by kernel_rfl⟩
instance : TFun Try.prog 14 := ⟨_, Try.func14, by kernel_rfl, by kernel_rfl⟩
instance : TFun Try.prog 15 := ⟨_, Try.func15, by kernel_rfl, by kernel_rfl⟩
instance : TFun Try.prog 16 := ⟨_, Try.func16, by kernel_rfl, by kernel_rfl⟩
instance : TFun Try.prog 17 := ⟨_, Try.func17, by kernel_rfl, by kernel_rfl⟩
instance : TFun Try.prog 18 := ⟨_, Try.func18, by kernel_rfl, by kernel_rfl⟩
instance : TFun Try.prog 19 := ⟨_, Try.func19, by kernel_rfl, by kernel_rfl⟩
instance : TFun Try.prog 20 := ⟨_, Try.func20, by kernel_rfl, by kernel_rfl⟩
instance : TFun Try.prog 21 := ⟨_, Try.func21, by kernel_rfl, by kernel_rfl⟩
instance : TFun Try.prog 22 := ⟨_, Try.func22, by kernel_rfl, by kernel_rfl⟩
instance : TFun Try.prog 23 := ⟨_, Try.func23, by kernel_rfl, by kernel_rfl⟩
instance : TFun Try.prog 24 := ⟨_, Try.func24, by kernel_rfl, by kernel_rfl⟩
instance : TFun Try.prog 25 := ⟨_, Try.func25, by kernel_rfl, by kernel_rfl⟩
instance : TFun Try.prog 26 := ⟨_, Try.func26, by kernel_rfl, by kernel_rfl⟩
instance : TFun Try.prog 27 := ⟨_, Try.func27, by kernel_rfl, by kernel_rfl⟩
instance : TFun Try.prog 28 := ⟨_, Try.func28, by kernel_rfl, by kernel_rfl⟩
instance : TFun Try.prog 29 := ⟨_, Try.func29, by kernel_rfl, by kernel_rfl⟩
instance : TFun Try.prog 30 := ⟨_, Try.func30, by kernel_rfl, by kernel_rfl⟩
instance : TFun Try.prog 31 := ⟨_, Try.func31, by kernel_rfl, by kernel_rfl⟩
instance : TFun Try.prog 32 := ⟨_, Try.func32, by kernel_rfl, by kernel_rfl⟩
instance : TFun Try.prog 33 := ⟨_, Try.func33, by kernel_rfl, by kernel_rfl⟩
instance : TFun Try.prog 34 := ⟨_, Try.func34, by kernel_rfl, by kernel_rfl⟩
instance : TFun Try.prog 35 := ⟨_, Try.func35, by kernel_rfl, by kernel_rfl⟩
instance : TFun Try.prog 36 := ⟨_, Try.func36, by kernel_rfl, by kernel_rfl⟩
instance : TFun Try.prog 37 := ⟨_, Try.func37, by kernel_rfl, by kernel_rfl⟩
instance : TFun Try.prog 38 := ⟨_, Try.func38, by kernel_rfl, by kernel_rfl⟩
instance : TFun Try.prog 39 := ⟨_, Try.func39, by kernel_rfl, by kernel_rfl⟩
instance : TFun Try.prog 40 := ⟨_, Try.func40, by kernel_rfl, by kernel_rfl⟩
instance : TFun Try.prog 41 := ⟨_, Try.func41, by kernel_rfl, by kernel_rfl⟩
instance : TFun Try.prog 42 := ⟨_, Try.func42, by kernel_rfl, by kernel_rfl⟩
instance : TFun Try.prog 43 := ⟨_, Try.func43, by kernel_rfl, by kernel_rfl⟩
instance : TFun Try.prog 44 := ⟨_, Try.func44, by kernel_rfl, by kernel_rfl⟩
instance : TFun Try.prog 45 := ⟨_, Try.func45, by kernel_rfl, by kernel_rfl⟩
instance : TFun Try.prog 46 := ⟨_, Try.func46, by kernel_rfl, by kernel_rfl⟩
instance : TFun Try.prog 47 := ⟨_, Try.func47, by kernel_rfl, by kernel_rfl⟩
instance : TFun Try.prog 48 := ⟨_, Try.func48, by kernel_rfl, by kernel_rfl⟩
instance : TFun Try.prog 49 := ⟨_, Try.func49, by kernel_rfl, by kernel_rfl⟩
instance : TFun Try.prog 50 := ⟨_, Try.func50, by kernel_rfl, by kernel_rfl⟩
instance : TFun Try.prog 51 := ⟨_, Try.func51, by kernel_rfl, by kernel_rfl⟩
instance : TFun Try.prog 52 := ⟨_, Try.func52, by kernel_rfl, by kernel_rfl⟩
instance : TFun Try.prog 53 := ⟨_, Try.func53, by kernel_rfl, by kernel_rfl⟩
instance : TFun Try.prog 54 := ⟨_, Try.func54, by kernel_rfl, by kernel_rfl⟩
instance : TFun Try.prog 55 := ⟨_, Try.func55, by kernel_rfl, by kernel_rfl⟩
instance : TFun Try.prog 56 := ⟨_, Try.func56, by kernel_rfl, by kernel_rfl⟩
instance : TFun Try.prog 57 := ⟨_, Try.func57, by kernel_rfl, by kernel_rfl⟩
instance : TFun Try.prog 58 := ⟨_, Try.func58, by kernel_rfl, by kernel_rfl⟩
instance : TFun Try.prog 59 := ⟨_, Try.func59, by kernel_rfl, by kernel_rfl⟩
instance : TFun Try.prog 60 := ⟨_, Try.func60, by kernel_rfl, by kernel_rfl⟩
instance : TFun Try.prog 61 := ⟨_, Try.func61, by kernel_rfl, by kernel_rfl⟩
instance : TFun Try.prog 62 := ⟨_, Try.func62, by kernel_rfl, by kernel_rfl⟩
instance : TFun Try.prog 63 := ⟨_, Try.func63, by kernel_rfl, by kernel_rfl⟩
instance : TFun Try.prog 64 := ⟨_, Try.func64, by kernel_rfl, by kernel_rfl⟩
instance : TFun Try.prog 65 := ⟨_, Try.func65, by kernel_rfl, by kernel_rfl⟩
instance : TFun Try.prog 66 := ⟨_, Try.func66, by kernel_rfl, by kernel_rfl⟩
instance : TFun Try.prog 67 := ⟨_, Try.func67, by kernel_rfl, by kernel_rfl⟩
instance : TFun Try.prog 68 := ⟨_, Try.func68, by kernel_rfl, by kernel_rfl⟩
instance : TFun Try.prog 69 := ⟨_, Try.func69, by kernel_rfl, by kernel_rfl⟩
instance : TFun Try.prog 70 := ⟨_, Try.func70, by kernel_rfl, by kernel_rfl⟩
instance : TFun Try.prog 71 := ⟨_, Try.func71, by kernel_rfl, by kernel_rfl⟩
instance : TFun Try.prog 72 := ⟨_, Try.func72, by kernel_rfl, by kernel_rfl⟩
instance : TFun Try.prog 73 := ⟨_, Try.func73, by kernel_rfl, by kernel_rfl⟩
instance : TFun Try.prog 74 := ⟨_, Try.func74, by kernel_rfl, by kernel_rfl⟩
instance : TFun Try.prog 75 := ⟨_, Try.func75, by kernel_rfl, by kernel_rfl⟩
instance : TFun Try.prog 76 := ⟨_, Try.func76, by kernel_rfl, by kernel_rfl⟩
instance : TFun Try.prog 77 := ⟨_, Try.func77, by kernel_rfl, by kernel_rfl⟩
instance : TFun Try.prog 78 := ⟨_, Try.func78, by kernel_rfl, by kernel_rfl⟩
instance : TFun Try.prog 79 := ⟨_, Try.func79, by kernel_rfl, by kernel_rfl⟩
instance : TFun Try.prog 80 := ⟨_, Try.func80, by kernel_rfl, by kernel_rfl⟩
instance : TFun Try.prog 81 := ⟨_, Try.func81, by kernel_rfl, by kernel_rfl⟩
instance : TFun Try.prog 82 := ⟨_, Try.func82, by kernel_rfl, by kernel_rfl⟩
instance : TFun Try.prog 83 := ⟨_, Try.func83, by kernel_rfl, by kernel_rfl⟩
instance : TFun Try.prog 84 := ⟨_, Try.func84, by kernel_rfl, by kernel_rfl⟩
instance : TFun Try.prog 85 := ⟨_, Try.func85, by kernel_rfl, by kernel_rfl⟩
instance : TFun Try.prog 86 := ⟨_, Try.func86, by kernel_rfl, by kernel_rfl⟩
instance : TFun Try.prog 87 := ⟨_, Try.func87, by kernel_rfl, by kernel_rfl⟩
instance : TFun Try.prog 88 := ⟨_, Try.func88, by kernel_rfl, by kernel_rfl⟩
instance : TFun Try.prog 89 := ⟨_, Try.func89, by kernel_rfl, by kernel_rfl⟩
instance : TFun Try.prog 90 := ⟨_, Try.func90, by kernel_rfl, by kernel_rfl⟩
instance : TFun Try.prog 91 := ⟨_, Try.func91, by kernel_rfl, by kernel_rfl⟩
instance : TFun Try.prog 92 := ⟨_, Try.func92, by kernel_rfl, by kernel_rfl⟩
instance : TFun Try.prog 93 := ⟨_, Try.func93, by kernel_rfl, by kernel_rfl⟩
instance : TFun Try.prog 94 := ⟨_, Try.func94, by kernel_rfl, by kernel_rfl⟩
instance : TFun Try.prog 95 := ⟨_, Try.func95, by kernel_rfl, by kernel_rfl⟩
instance : TFun Try.prog 96 := ⟨_, Try.func96, by kernel_rfl, by kernel_rfl⟩
instance : TFun Try.prog 97 := ⟨_, Try.func97, by kernel_rfl, by kernel_rfl⟩
instance : TFun Try.prog 98 := ⟨_, Try.func98, by kernel_rfl, by kernel_rfl⟩
instance : TFun Try.prog 99 := ⟨_, Try.func99, by kernel_rfl, by kernel_rfl⟩
instance : TFun Try.prog 100 := ⟨_, Try.func100, by kernel_rfl, by kernel_rfl⟩
instance : TFun Try.prog 101 := ⟨_, Try.func101, by kernel_rfl, by kernel_rfl⟩
instance : TFun Try.prog 102 := ⟨_, Try.func102, by kernel_rfl, by kernel_rfl⟩
instance : TFun Try.prog 103 := ⟨_, Try.func103, by kernel_rfl, by kernel_rfl⟩
instance : TFun Try.prog 104 := ⟨_, Try.func104, by kernel_rfl, by kernel_rfl⟩
instance : TFun Try.prog 105 := ⟨_, Try.func105, by kernel_rfl, by kernel_rfl⟩
instance : TFun Try.prog 106 := ⟨_, Try.func106, by kernel_rfl, by kernel_rfl⟩
instance : TFun Try.prog 107 := ⟨_, Try.func107, by kernel_rfl, by kernel_rfl⟩
instance : TFun Try.prog 108 := ⟨_, Try.func108, by kernel_rfl, by kernel_rfl⟩
instance : TFun Try.prog 109 := ⟨_, Try.func109, by kernel_rfl, by kernel_rfl⟩
instance : TFun Try.prog 110 := ⟨_, Try.func110, by kernel_rfl, by kernel_rfl⟩
instance : TFun Try.prog 111 := ⟨_, Try.func111, by kernel_rfl, by kernel_rfl⟩
instance : TFun Try.prog 112 := ⟨_, Try.func112, by kernel_rfl, by kernel_rfl⟩
instance : TFun Try.prog 113 := ⟨_, Try.func113, by kernel_rfl, by kernel_rfl⟩
instance : TFun Try.prog 114 := ⟨_, Try.func114, by kernel_rfl, by kernel_rfl⟩
instance : TFun Try.prog 115 := ⟨_, Try.func115, by kernel_rfl, by kernel_rfl⟩
instance : TFun Try.prog 116 := ⟨_, Try.func116, by kernel_rfl, by kernel_rfl⟩
instance : TFun Try.prog 117 := ⟨_, Try.func117, by kernel_rfl, by kernel_rfl⟩
instance : TFun Try.prog 118 := ⟨_, Try.func118, by kernel_rfl, by kernel_rfl⟩
instance : TFun Try.prog 119 := ⟨_, Try.func119, by kernel_rfl, by kernel_rfl⟩
instance : TFun Try.prog 120 := ⟨_, Try.func120, by kernel_rfl, by kernel_rfl⟩
instance : TFun Try.prog 121 := ⟨_, Try.func121, by kernel_rfl, by kernel_rfl⟩
instance : TFun Try.prog 122 := ⟨_, Try.func122, by kernel_rfl, by kernel_rfl⟩
instance : TFun Try.prog 123 := ⟨_, Try.func123, by kernel_rfl, by kernel_rfl⟩
instance : TFun Try.prog 124 := ⟨_, Try.func124, by kernel_rfl, by kernel_rfl⟩
instance : TFun Try.prog 125 := ⟨_, Try.func125, by kernel_rfl, by kernel_rfl⟩
instance : TFun Try.prog 126 := ⟨_, Try.func126, by kernel_rfl, by kernel_rfl⟩
instance : TFun Try.prog 127 := ⟨_, Try.func127, by kernel_rfl, by kernel_rfl⟩
instance : TFun Try.prog 129 := ⟨_, Try.func129, by kernel_rfl, by kernel_rfl⟩
instance : TFun Try.prog 130 := ⟨_, Try.func130, by kernel_rfl, by kernel_rfl⟩
instance : TFun Try.prog 131 := ⟨_, Try.func131, by kernel_rfl, by kernel_rfl⟩
instance : TFun Try.prog 132 := ⟨_, Try.func132, by kernel_rfl, by kernel_rfl⟩
instance : TFun Try.prog 133 := ⟨_, Try.func133, by kernel_rfl, by kernel_rfl⟩
instance : TFun Try.prog 134 := ⟨_, Try.func134, by kernel_rfl, by kernel_rfl⟩
instance : TFun Try.prog 135 := ⟨_, Try.func135, by kernel_rfl, by kernel_rfl⟩
instance : TFun Try.prog 136 := ⟨_, Try.func136, by kernel_rfl, by kernel_rfl⟩
instance : TFun Try.prog 137 := ⟨_, Try.func137, by kernel_rfl, by kernel_rfl⟩
instance : TFun Try.prog 138 := ⟨_, Try.func138, by kernel_rfl, by kernel_rfl⟩
instance : TFun Try.prog 139 := ⟨_, Try.func139, by kernel_rfl, by kernel_rfl⟩
instance : TFun Try.prog 140 := ⟨_, Try.func140, by kernel_rfl, by kernel_rfl⟩
instance : TFun Try.prog 141 := ⟨_, Try.func141, by kernel_rfl, by kernel_rfl⟩
instance : TFun Try.prog 142 := ⟨_, Try.func142, by kernel_rfl, by kernel_rfl⟩
instance : TFun Try.prog 147 := ⟨_, Try.func147, by kernel_rfl, by kernel_rfl⟩
instance : TFun Try.prog 148 := ⟨_, Try.func148, by kernel_rfl, by kernel_rfl⟩
instance : TFun Try.prog 149 := ⟨_, Try.func149, by kernel_rfl, by kernel_rfl⟩
instance : TFun Try.prog 150 := ⟨_, Try.func150, by kernel_rfl, by kernel_rfl⟩
instance : TFun Try.prog 151 := ⟨_, Try.func151, by kernel_rfl, by kernel_rfl⟩
instance : TFun Try.prog 152 := ⟨_, Try.func152, by kernel_rfl, by kernel_rfl⟩
instance : TFun Try.prog 153 := ⟨_, Try.func153, by kernel_rfl, by kernel_rfl⟩
instance : TFun Try.prog 154 := ⟨_, Try.func154, by kernel_rfl, by kernel_rfl⟩
instance : TFun Try.prog 155 := ⟨_, Try.func155, by kernel_rfl, by kernel_rfl⟩
instance : TFun Try.prog 156 := ⟨_, Try.func156, by kernel_rfl, by kernel_rfl⟩
instance : TFun Try.prog 157 := ⟨_, Try.func157, by kernel_rfl, by kernel_rfl⟩
instance : TFun Try.prog 158 := ⟨_, Try.func158, by kernel_rfl, by kernel_rfl⟩
instance : TFun Try.prog 159 := ⟨_, Try.func159, by kernel_rfl, by kernel_rfl⟩
instance : TFun Try.prog 171 := ⟨_, Try.func171, by kernel_rfl, by kernel_rfl⟩
instance : TFun Try.prog 172 := ⟨_, Try.func172, by kernel_rfl, by kernel_rfl⟩
instance : TFun Try.prog 173 := ⟨_, Try.func173, by kernel_rfl, by kernel_rfl⟩
instance : TFun Try.prog 174 := ⟨_, Try.func174, by kernel_rfl, by kernel_rfl⟩
instance : TFun Try.prog 175 := ⟨_, Try.func175, by kernel_rfl, by kernel_rfl⟩
instance : TFun Try.prog 176 := ⟨_, Try.func176, by kernel_rfl, by kernel_rfl⟩
instance : TFun Try.prog 177 := ⟨_, Try.func177, by kernel_rfl, by kernel_rfl⟩
instance : TFun Try.prog 178 := ⟨_, Try.func178, by kernel_rfl, by kernel_rfl⟩
instance : TFun Try.prog 179 := ⟨_, Try.func179, by kernel_rfl, by kernel_rfl⟩
instance : TFun Try.prog 181 := ⟨_, Try.func181, by kernel_rfl, by kernel_rfl⟩
instance : TFun Try.prog 182 := ⟨_, Try.func182, by kernel_rfl, by kernel_rfl⟩

end Go.Proofs.Ythffgbhphjkdeaa
namespace Go.Proofs.Ythffgbhphjkdeaa
open Go.RowKit

set_option maxRecDepth 100000 in
theorem l01Byte_any (B g : Nat) (w : World) (hc : Cur B 141 w g) :
    Calls Try.prog 139 #[.pointer (some ⟨g, 0, none⟩)] w (Drew B 141 g w fun x => 0 ≤ x ∧ x ≤ 255) := by
  obtain ⟨a, len, cap, i, h, hb, hg, hi, hl, hy⟩ := hc
  have hgs : g < w.heap.size := (Array.getElem?_eq_some_iff.1 hg).1
  have c0 : w.cell? ⟨g, 0, none⟩ = some (.slice a len cap) := by simp [World.cell?, hg]
  have c1 : w.cell? ⟨g, 1, none⟩ = some (.int .i64 i) := by simp [World.cell?, hg]
  have c2 : w.cell? ⟨g, 2, none⟩ = some (.int .i64 h) := by simp [World.cell?, hg]
  have z1 : w.frozen? ⟨g, 1, none⟩ = false := by simp [World.frozen?, hg]
  have z2 : w.frozen? ⟨g, 2, none⟩ = false := by simp [World.frozen?, hg]
  have hg' := Lib.hid hg
  have hy' := Lib.hid hy
  clear hg
  by_cases hlt : i < len
  · rcases hy with h0 | ⟨b, off, rfl, hbB, hcell⟩
    · omega
    obtain ⟨n, hn0, hn1, hn⟩ := hcell i hlt
    have hbg : b ≠ g := by omega
    have hgb : g ≠ b := by omega
    clear hcell
    go_enter Try.func139, Try.ntmps139
    go_wp2
    go_quiet (fail)
    go_wp2
    go_quiet (fail)
    go_wp2
    go_quiet (fail)
    go_wp2
    go_ret
    refine drew_mk (B := B) (T := 141) (g := g) (w := w) (and255 _) ⟨_, len, cap, i + 1, wrap64 (wrap64 (h * 6364136223846793005) + 1442695040888963407), hb, by simp [World.setCell, World.drewN, Array.getElem?_modify, hg'.out], by omega, hl, hy'.out⟩ ?_
    repeat (first | exact Mod.refl _ _ | refine Mod.drewN ?_ _ | refine Mod.setAt ?_ _ _ _)
  · go_enter Try.func139, Try.ntmps139
    go_wp2
    go_quiet (fail)
    go_wp2
    go_quiet (fail)
    go_wp2
    go_ret
    refine drew_mk (B := B) (T := 141) (g := g) (w := w) (and255 _) ⟨_, len, cap, i, wrap64 (wrap64 (h * 6364136223846793005) + 1442695040888963407), hb, by simp [World.setCell, World.drewN, Array.getElem?_modify, hg'.out], by omega, hl, hy'.out⟩ ?_
    repeat (first | exact Mod.refl _ _ | refine Mod.drewN ?_ _ | refine Mod.setAt ?_ _ _ _)

set_option maxRecDepth 100000 in
theorem l01Below_any (B g : Nat) (w : World) (hc : Cur B 141 w g) (n : Int) (hn : n ≤ 1000000000) :
    Calls Try.prog 111 #[.pointer (some ⟨g, 0, none⟩), .int .i64 n] w (Drew B 141 g w fun x => 0 ≤ x ∧ (x < n ∨ n ≤ 0 ∧ x = 0)) := by
  by_cases h0 : n ≤ 0
  · go_enter Try.func111, Try.ntmps111
    go_wp2
    go_ret
    exact ⟨0, ⟨by omega, .inr ⟨h0, rfl⟩⟩, rfl, hc, Mod.refl _ _⟩
  · have hp : 0 < n := by omega
    by_cases h1 : n ≤ 256
    · go_enter Try.func111, Try.ntmps111
      go_wp2_with fail
      refine (l01Byte_any B g w hc).mono ?_
      rintro e w1 ⟨x, hx, rfl, hc1, hm1⟩
      have hx0 := hx.1
      have hx1 := hx.2
      clear hx
      go_wp2
      go_ret
      refine ⟨_, ?_, rfl, hc1, hm1⟩
      have := Int.emod_nonneg x (show n ≠ 0 by omega)
      have := Int.emod_lt_of_pos x hp
      omega
    · have h2 : 256 < n := by omega
      go_enter Try.func111, Try.ntmps111
      go_wp2_with fail
      refine (l01Byte_any B g w hc).mono ?_
      rintro e w1 ⟨x1, ⟨hx1, hy1⟩, rfl, hc1, hm1⟩
      go_wp2_with fail
      refine (l01Byte_any B g w1 hc1).mono ?_
      rintro e w2 ⟨x2, ⟨hx2, hy2⟩, rfl, hc2, hm2⟩
      go_wp2_with fail
      refine (l01Byte_any B g w2 hc2).mono ?_
      rintro e w3 ⟨x3, ⟨hx3, hy3⟩, rfl, hc3, hm3⟩
      go_wp2_with fail
      refine (l01Byte_any B g w3 hc3).mono ?_
      rintro e w4 ⟨x4, ⟨hx4, hy4⟩, rfl, hc4, hm4⟩
      go_wp2
      go_ret
      refine ⟨_, ?_, rfl, hc4, ((hm1.trans hm2).trans hm3).trans hm4⟩
      have := Int.emod_nonneg (x1 * 16777216 + x2 * 65536 + x3 * 256 + x4) (show n ≠ 0 by omega)
      have := Int.emod_lt_of_pos (x1 * 16777216 + x2 * 65536 + x3 * 256 + x4) hp
      omega

theorem l01Once_any (B g : Nat) (w : World) (hc : Cur B 141 w g) (n : Int) (hn : n ≤ 1000000000) :
    Calls Try.prog 69 #[.pointer (some ⟨g, 0, none⟩), .int .i64 n] w fun e w' => ∃ b, e = .returned (.bool b) ∧ Cur B 141 w' g ∧ Mod (fun k => k = g) w w' := by
  go_enter Try.func69, Try.ntmps69
  go_wp2_with fail
  refine (l01Below_any B g w hc n hn).mono ?_
  rintro e w1 ⟨x, hx, rfl, hc1, hm1⟩
  clear hx
  go_wp2
  go_ret
  exact ⟨_, rfl, hc1, hm1⟩

set_option maxRecDepth 100000 in
theorem l01New_any (B : Nat) (w : World) (a : Option Addr) (len cap : Nat) (hB : B ≤ w.heap.size) (hl : len ≤ 1048576) (hy : Bytes B w a len) :
    Calls Try.prog 66 #[.slice a len cap] w (NewCur B 141 w) := by
  have Hy := Lib.hid hy
  clear hy
  go_enter Try.func66, Try.ntmps66
  go_wp2
  go_loop [3, 4] (fun h i => ∃ (k : Nat) (n : Int), k ≤ len ∧ h = .int .i64 n ∧ i = .int .i64 k) (fun _ i => len - (intOf i).toNat)
  case atStart => exact ⟨0, _, by omega, rfl, rfl⟩
  case round =>
    obtain ⟨k, n, hk, rfl, rfl⟩ := hrel
    by_cases hlt : k < len ∧ k < 4000
    · obtain ⟨h1, h2⟩ := hlt
      rcases Hy.out with h0 | ⟨b, off, rfl, hbB, hcell⟩
      · omega
      obtain ⟨m, hm0, hm1, hm⟩ := hcell k h1
      clear hcell
      go_wp2
      go_round
      case rel => exact ⟨k + 1, _, by omega, rfl, by go_num⟩
      case measure => simp [intOf]; omega
    · have hn : ¬ (k < len) ∨ (k < len ∧ ¬ k < 4000) := by omega
      clear hlt
      rcases hn with hn | ⟨hp, hn⟩
      all_goals
        go_wp2
        go_ret
        refine ⟨w.heap.size, Nat.le_refl _, rfl, ⟨a, len, cap, 0, n, hB, heap_alloc_new w _, by omega, hl, Hy.out.same fun k hk => ?_⟩, (Mod.refl _ w).alloc _⟩
        exact Below.heap_alloc _ _ _ (by omega)

/-- One of a list's numbers. -/
theorem l01PickInt_any (B g : Nat) (w : World) (hc : Cur B 141 w g) (b cap : Nat) (l : List Int) (hl : Ints w b 0 l) (hp : 0 < l.length) (hm : l.length ≤ 1000) (hbg : b ≠ g) :
    Calls Try.prog 71 #[.pointer (some ⟨g, 0, none⟩), .slice (some ⟨b, 0, none⟩) l.length cap] w (Drew B 141 g w fun x => x ∈ l) := by
  have Hl := Lib.hid hl
  clear hl
  go_enter Try.func71, Try.ntmps71
  go_wp2_with fail
  refine (l01Below_any B g w hc l.length (by omega)).mono ?_
  rintro e w1 ⟨x, ⟨hx0, hx1⟩, rfl, hc1, hm1⟩
  obtain ⟨k, rfl⟩ := Int.eq_ofNat_of_zero_le hx0
  have hk : k < l.length := by omega
  have hcell := (Hl.out.mod hm1 (show ¬ b = g from hbg)) k hk
  rw [Nat.zero_add] at hcell
  clear hx1
  go_wp2
  go_ret
  exact ⟨_, by simp, rfl, hc1, hm1⟩

end Go.Proofs.Ythffgbhphjkdeaa
namespace Go.Proofs.Ythffgbhphjkdeaa
open Go.RowKit
set_option linter.unusedVariables false
set_option linter.unusedSimpArgs false

section
variable {P : Program} {n : Nat} {W : World} {R : Rg W} {L : List Blk} {O : List Own} {E : List Res} {f : List (Nat × Value)} {Q : Exit → Go.Act → World → Prop} {ops : Array Oper} {rest : List Oper}
theorem wp_mono_then {c y : Code} {K : Go.Act → World → Prop} {a : Go.Act} {w : World} (h : c.wp P (Exit.then K Q) a w) (hK : ∀ a w, K a w → y.wp P Q a w) : c.wp P (Exit.then (y.wp P Q) Q) a w :=
  wp_mono h (fun e a w q => by
    cases e with
    | normal => exact hK a w q
    | exit id => exact q
    | goto l => exact q
    | ret => exact q
    | panic ch => exact q
    | outgrown => exact q)
/-- A part of the text whose ways are told by one kind of state, and what follows. -/
theorem SX.join {ι : Type} {c y : Code} (inv : ι → Prop) (Lf : ι → List Blk) (Of : ι → List Own) (Ef : ι → List Res) (ff : ι → List (Nat × Value))
    (h1 : SX P n W R L O E f c (Exit.then (fun a w => ∃ i, inv i ∧ Fr n (ff i) a ∧ Loc W R (Lf i) (Of i) (Ef i) w) Q))
    (h2 : ∀ i, inv i → SX P n W R (Lf i) (Of i) (Ef i) (ff i) y Q) : SX P n W R L O E f c (Exit.then (y.wp P Q) Q) := ⟨fun a w hf hl =>
  wp_mono_then (h1.run a w hf hl) fun a w ⟨i, hi, hf, hl⟩ => (h2 i hi).run a w hf hl⟩
theorem SQ.join {ι : Type} {inv : ι → Prop} {Lf : ι → List Blk} {Of : ι → List Own} {Ef : ι → List Res} {ff : ι → List (Nat × Value)} (i : ι) (h : inv i) (hs : subF f (ff i)) (hl : ∀ w, Loc W R L O E w → Loc W R (Lf i) (Of i) (Ef i) w) :
    SQ n W R L O E f .normal (Exit.then (fun a w => ∃ i, inv i ∧ Fr n (ff i) a ∧ Loc W R (Lf i) (Of i) (Ef i) w) Q) := ⟨fun _ w hf hl' => ⟨i, h, hf.sub hs, hl w hl'⟩⟩
/-- A cursor may turn. -/
def curRg (T : TypeId) (B g : Nat) (W : World) (hg : g < W.heap.size) (hB : B ≤ g) : Rg W where
  p := fun k => k = g
  q := fun _ => False
  J := fun w => Cur B T w g
  low := fun k hk => by subst hk; exact hg
  sub := fun _ h => h.elim
  keep := fun S w w' h hm hs => h.mod hm (fun hS => hs g hg hS) (fun k hk hS => hs k (by omega) hS)
/-- What a drawing call gives. -/
def DrewV {ξ : Type} (T : TypeId) (B g : Nat) (w : World) (v : ξ → Value) (K : ξ → Prop) (e : Ending) (w' : World) : Prop := ∃ x, e = .returned (v x) ∧ K x ∧ Mod (fun k => k = g) w w' ∧ Cur B T w' g
theorem Drew.v {T : TypeId} {B g : Nat} {w : World} {p : Int → Prop} {e : Ending} {w' : World} (h : Drew B T g w p e w') : DrewV T B g w (fun x : Int => .int .i64 x) p e w' := by
  obtain ⟨x, hp, he, hc, hm⟩ := h
  exact ⟨x, he, hp, hm, hc⟩
variable {d : Option Nat} {dn g B T : Nat} {fn : FuncId} {ars : List Operand} {args : List Value} {aT : Array TypeId} {ty : TypeId} {pos : String} {af : Array Edge} {gd : Option (Nat × Bool)} {hg : g < W.heap.size} {hB : B ≤ g}
theorem qaB {ξ : Type} {v : ξ → Value} [TFun P fn] (hw : wantO ops f ⟨some dn, .call ⟨.value (.func fn), ars.toArray, aT⟩, ty, pos, af, gd⟩ = some true) (hd : Nat.blt dn n = true) (ha : evL f ars = some args) (K : ξ → Prop)
    (hc : ∀ w, Loc W (curRg T B g W hg hB) L O [] w → Calls P fn args.toArray w (DrewV T B g w v K))
    (h : ∀ x, K x → SXl P n W (curRg T B g W hg hB) ops L O [] ((dn, v x) :: f) rest Q) : SXl P n W (curRg T B g W hg hB) ops L O [] f (⟨some dn, .call ⟨.value (.func fn), ars.toArray, aT⟩, ty, pos, af, gd⟩ :: rest) Q :=
  SXl.callJ (ξ := ξ) (v := v) (fun _ h => h) hw hd ha K hc h
theorem calls_draw {fid : FuncId} {fun_ : Func} {c : Code} {as_ : List Value} {w : World} {R' : Ending → World → Prop} (hc : Cur B T w g) (hf : P.funcs[fid]? = some fun_) (hb : fun_.body = some c) (hn : fun_.ntmps = n)
    (hfr : ∀ a : Go.Act, a.defers = [] → n ≤ a.tmps.size → (∀ (t : Nat) (v : Value), as_[t]? = some v → a.tmps[t]? = some v) → Fr n f a)
    (h : SX P n w (curRg T B g w hc.size hc.base) [] [] [] f c (bodyPost P fun_ R')) : Calls P fid as_.toArray w R' :=
  calls_sxJ (curRg T B g w hc.size hc.base) hc hf hb hn hfr h
/-- A cursor of the call's own, over old bytes. -/
def curRes (T : TypeId) (W : World) (g : Nat) : Res where
  foot := fun k => k = g
  says := fun w => W.heap.size ≤ g ∧ ∃ (a : Option Addr) (len cap i : Nat) (h : Int), w.heap[g]? = some (.cells #[.slice a len cap, .int .i64 (i : Int), .int .i64 h] T (0, 0)) ∧ i ≤ len ∧ len ≤ 1048576 ∧ Bytes W.heap.size W a len
  stable := fun S w w' ⟨h0, a, len, cap, i, h, h1, h2⟩ hm hs => ⟨h0, a, len, cap, i, h, hm.blk h1 (hs g rfl), h2⟩
theorem cur_of {w : World} (hm : Mod (fun _ => False) W w) (h : (curRes T W g).says w) : Cur W.heap.size T w g := by
  obtain ⟨h0, a, len, cap, i, hh, h1, h2, h3, h4⟩ := h
  exact ⟨a, len, cap, i, hh, h0, h1, h2, h3, h4.same fun k hk => hm.block k hk (fun f => f)⟩
theorem of_cur {w : World} (hk : ∀ k, k < W.heap.size → w.heap[k]? = W.heap[k]?) (h : Cur W.heap.size T w g) : (curRes T W g).says w := by
  obtain ⟨a, len, cap, i, hh, h0, h1, h2, h3, h4⟩ := h
  exact ⟨h0, a, len, cap, i, hh, h1, h2, h3, h4.same fun k hk2 => (hk k hk2).symm⟩
/-- A new cursor. -/
theorem SXl.newCur [TFun P fn] (hw : wantO ops f ⟨some dn, .call ⟨.value (.func fn), ars.toArray, aT⟩, ty, pos, af, gd⟩ = some true) (hd : Nat.blt dn n = true) (ha : evL f ars = some args)
    (hc : ∀ w, Loc W (Rg.none W) L O E w → Calls P fn args.toArray w (NewCur W.heap.size T w))
    (h : ∀ g, SXl P n W (Rg.none W) ops L O (curRes T W g :: E) ((dn, .pointer (some ⟨g, 0, none⟩)) :: f) rest Q) : SXl P n W (Rg.none W) ops L O E f (⟨some dn, .call ⟨.value (.func fn), ars.toArray, aT⟩, ty, pos, af, gd⟩ :: rest) Q :=
  SXl.calln1 (ξ := Nat) (v := fun g => .pointer (some ⟨g, 0, none⟩)) (F1 := curRes T W) hw hd ha (fun w hl => (hc w hl).mono fun e w' ⟨g, h1, h2, h3, h4⟩ => ⟨g, h2, ⟨of_cur (fun k hk => by
    have e1 := hl.mod.block k hk (fun f => f)
    have e2 := h4.block k (Nat.lt_of_lt_of_le hk hl.mod.size) (fun f => f)
    rw [e2, e1]) h3, fun k hk => by subst hk; exact ⟨h1, h3.size⟩⟩, h4⟩) h
/-- A draw from it. -/
theorem SXl.drawC {ξ : Type} {v : ξ → Value} [TFun P fn] (i : Nat) (hw : wantO ops f ⟨some dn, .call ⟨.value (.func fn), ars.toArray, aT⟩, ty, pos, af, gd⟩ = some true) (hd : Nat.blt dn n = true) (ha : evL f ars = some args) (hi : E[i]? = some (curRes T W g)) (K : ξ → Prop)
    (hc : ∀ w, Loc W (Rg.none W) L O E w → Cur W.heap.size T w g → Calls P fn args.toArray w (DrewV T W.heap.size g w v K))
    (h : ∀ x, K x → SXl P n W (Rg.none W) ops L O E ((dn, v x) :: f) rest Q) : SXl P n W (Rg.none W) ops L O E f (⟨some dn, .call ⟨.value (.func fn), ars.toArray, aT⟩, ty, pos, af, gd⟩ :: rest) Q := by
  have hE : E.set i (curRes T W g) = E := by
    refine List.ext_getElem? fun j => ?_
    rw [List.getElem?_set]
    split
    · rename_i e
      subst e
      rw [hi]
      split
      · rfl
      · rename_i hlt
        have := (List.getElem?_eq_some_iff.1 hi).1
        exact (hlt this).elim
    · rfl
  refine SXl.callM (ξ := ξ) (v := v) (F' := fun _ => curRes T W g) i hw hd ha hi (fun _ _ h => h) K (fun w hl => ?_) (fun x hx => by rw [hE]; exact h x hx)
  have hmem : curRes T W g ∈ E := List.mem_iff_getElem?.2 ⟨i, hi⟩
  have hs := (hl.res _ hmem).1
  have hnew := hl.resNew _ hmem g rfl
  refine (hc w hl (cur_of hl.mod hs)).mono ?_
  rintro e w' ⟨x, he, hk, hm, hcur⟩
  refine ⟨x, he, hk, of_cur (fun k hk2 => ?_) hcur, hm⟩
  rw [hm.block k (Nat.lt_of_lt_of_le hk2 hl.mod.size) (fun e => by omega), hl.mod.block k hk2 (fun f => f)]
end
end Go.Proofs.Ythffgbhphjkdeaa
namespace Go.Proofs.Ythffgbhphjkdeaa
open Go.RowKit

/-- What a block that a pointer names is. -/
def gOf (v : Value) : Nat := match v with
  | .pointer (some a) => a.block
  | _ => 0
/-- Only a new block of the cells z may turn, to the cells r. -/
def TQ (B T0 : Nat) (z r : List Value) (w w' : World) : Prop := Mod (fun k => B ≤ k ∧ w.heap[k]? = some (.cells z.toArray T0 (0, 0)) ∧ w'.heap[k]? = some (.cells r.toArray T0 (0, 0))) w w'
structure Far (W : World) (L : List Blk) (O : List Own) (E : List Res) (B : Nat) : Prop where
  old : W.heap.size ≤ B
  blk : ∀ b ∈ L, b.g < B
  own : ∀ o ∈ O, ∀ k, o.v.ownBlock = some k → k < B
  res : ∀ F ∈ E, ∀ k, F.foot k → k < B
section
variable {P : Program} {n : Nat} {W : World} {R : Rg W} {L : List Blk} {O : List Own} {E : List Res} {w w' : World} {B T0 : Nat} {z r : List Value}
theorem Loc.far (h : Loc W R L O E w) : Far W L O E w.heap.size := ⟨h.mod.size, fun b hb => h.blk_lt hb, fun o ho k hk => (ownBlock_lt (h.own o ho).1 hk).2, fun F hF k hk => (h.res F hF).2.1 k hk⟩
theorem Loc.keepQ (hf : Far W L O E B) (h : Loc W R L O E w) (hm : TQ B T0 z r w w') : Loc W R L O E w' :=
  h.frame hm (fun k hk hs => by have := hf.old; have := hs.1; omega) (fun b hb hs => by have := hf.blk b hb; have := hs.1; omega) (fun o ho k hk hs => by have := hf.own o ho k hk; have := hs.1; omega) (fun F hF k hk hs => by have := hf.res F hF k hk; have := hs.1; omega)
theorem Loc.addNew (hf : Far W L O E B) (h : Loc W R L O E w) {g : Nat} (hg : B ≤ g) (hb : w.heap[g]? = some (.cells r.toArray T0 (0, 0))) : Loc W R (⟨g, r, T0⟩ :: L) O E w where
  mod := h.mod
  inv := h.inv
  blk := fun b hbm => by
    rcases List.mem_cons.1 hbm with rfl | hbm
    · exact ⟨.inr (Nat.le_trans hf.old hg), hb⟩
    · exact h.blk b hbm
  apart := List.pairwise_cons.2 ⟨fun b hbm e => by have := hf.blk b hbm; simp only at e; omega, h.apart⟩
  own := fun o ho => ⟨(h.own o ho).1, fun b hbm e => by
    rcases List.mem_cons.1 hbm with rfl | hbm
    · have := hf.own o ho _ e; simp only at this; omega
    · exact (h.own o ho).2 b hbm e⟩
  ownApart := h.ownApart
  res := fun F hF => ⟨(h.res F hF).1, (h.res F hF).2.1, fun b hbm f => by
    rcases List.mem_cons.1 hbm with rfl | hbm
    · have := hf.res F hF _ f; simp only at this; omega
    · exact (h.res F hF).2.2.1 b hbm f, (h.res F hF).2.2.2⟩
  resNew := h.resNew
  resApart := h.resApart
/-- A pointer at a new block of the cells z or r. -/
def AV (B T0 : Nat) (z r : List Value) (w : World) (v : Value) : Prop := ∃ g, v = .pointer (some ⟨g, 0, none⟩) ∧ B ≤ g ∧ (w.heap[g]? = some (.cells z.toArray T0 (0, 0)) ∨ w.heap[g]? = some (.cells r.toArray T0 (0, 0)))
theorem AV.keep {v : Value} (h : AV B T0 z r w v) (hm : TQ B T0 z r w w') : AV B T0 z r w' v := by
  obtain ⟨g, h1, h2, h3⟩ := h
  refine ⟨g, h1, h2, ?_⟩
  by_cases hs : B ≤ g ∧ w.heap[g]? = some (.cells z.toArray T0 (0, 0)) ∧ w'.heap[g]? = some (.cells r.toArray T0 (0, 0))
  · exact .inr hs.2.2
  · have hlt : g < w.heap.size := by rcases h3 with h3 | h3 <;> exact (Array.getElem?_eq_some_iff.1 h3).1
    rw [hm.block g hlt hs]
    exact h3
/-- The block that operation ka made holds the cells r. -/
def SV (ka T0 : Nat) (r : List Value) (x : Nat → Value) (w : World) (_ : Value) : Prop := w.heap[gOf (x ka)]? = some (.cells r.toArray T0 (0, 0))
theorem SV.keep {ka : Nat} {x : Nat → Value} {v : Value} (h : SV ka T0 r x w v) (hm : TQ B T0 z r w w') : SV ka T0 r x w' v := by
  unfold SV at *
  by_cases hs : B ≤ gOf (x ka) ∧ w.heap[gOf (x ka)]? = some (.cells z.toArray T0 (0, 0)) ∧ w'.heap[gOf (x ka)]? = some (.cells r.toArray T0 (0, 0))
  · exact hs.2.2
  · rw [hm.block _ (Array.getElem?_eq_some_iff.1 h).1 hs]
    exact h
structure SXq (P : Program) (n : Nat) (W : World) (R : Rg W) (ops : Array Oper) (L : List Blk) (O : List Own) (E : List Res) (B T0 : Nat) (z r : List Value) (k : Nat) (U : List (Nat × ((Nat → Value) → World → Value → Prop))) (f : (Nat → Value) → List (Nat × Value)) (l : List Oper) (Q : Exit → Act → World → Prop) : Prop where
  run : ∀ F : (Nat → Value) → Act, (∀ x, Fr n (f x) (F x)) → RS P ops (TQ B T0 z r) (fun w => Loc W R L O E w ∧ B ≤ w.heap.size) Q k l F U
end
section
variable {P : Program} {n : Nat} {W : World} {R : Rg W} {L : List Blk} {O : List Own} {E : List Res} {U : List (Nat × ((Nat → Value) → World → Value → Prop))} {f : (Nat → Value) → List (Nat × Value)} {f0 : List (Nat × Value)} {Q : Exit → Act → World → Prop} {ops : Array Oper} {rest : List Oper} {k B T0 : Nat} {z r : List Value}
theorem SX.drawnQ {id : Nat} {l : List Oper} (T0 : Nat) (z r : List Value) (hm : P.follows .mixedOrders = true) (hc : regOk l.toArray = true) (h : ∀ B, Far W L O E B → SXq P n W R l.toArray L O E B T0 z r 0 [] (fun _ => f0) l Q) : SX P n W R L O E f0 (.region id l.toArray true) Q := ⟨fun a w hf hl =>
  wp_region_rs (fun w' => Loc W R L O E w' ∧ w.heap.size ≤ w'.heap.size) (TQ w.heap.size T0 z r) hm hc ⟨hl.keep ((Mod.refl _ w).drew), Nat.le_refl _⟩ ((h w.heap.size hl.far).run _ fun _ => hf)⟩
theorem SXq.v {o : Oper} {v : Value} {d : Nat} (hr : ∀ x, OpW P n W R L O E (f x) o v) (hdst : o.dst = some d) (hw : ∀ x, wantO ops (f x) o = some true) (hd : Nat.blt d n = true) (h : SXq P n W R ops L O E B T0 z r (k + 1) U (fun x => (d, v) :: f x) rest Q) : SXq P n W R ops L O E B T0 z r k U f (o :: rest) Q := ⟨fun F hF =>
  RS.val [] (fun _ => v) rfl (fun _ _ _ => rfl) (fun x => wanted_of (hF x) (hw x)) (fun x w hS _ => wp_never ((hr x).run _ w (hF x) hS.1) fun _ _ ⟨h1, h2⟩ => ⟨h1, ⟨hS.1.keep h2, Nat.le_trans hS.2 h2.size⟩, h2.mono fun _ _ f => f.elim⟩) (by rw [hdst]; exact h.run _ fun x => (hF x).put hd v)⟩
theorem SXq.no {o : Oper} {d : Nat} (hw : ∀ x, wantO ops (f x) o = some false) (hdst : o.dst = some d) (hd : Nat.blt d n = true) (h : SXq P n W R ops L O E B T0 z r (k + 1) U (fun x => (d, undef) :: f x) rest Q) : SXq P n W R ops L O E B T0 z r k U f (o :: rest) Q := ⟨fun F hF =>
  RS.skip (fun x => wanted_of (hF x) (hw x)) (by rw [hdst]; exact h.run _ fun x => (hF x).put hd undef)⟩
variable {d m ka ks : Nat} {xo yo : Operand} {ty : TypeId} {pos : String} {af : Array Edge} {gd : Option (Nat × Bool)}
theorem SXq.alloc [t : TZero P T0 z] (hf : Far W L O E B) (hw : ∀ x, wantO ops (f x) ⟨some d, .alloc T0, ty, pos, af, gd⟩ = some true) (hd : Nat.blt d n = true)
    (h : SXq P n W R ops L O E B T0 z r (k + 1) ((k, fun _ => AV B T0 z r) :: U) (fun x => (d, .pointer (some ⟨gOf (x k), 0, none⟩)) :: f x) rest Q) : SXq P n W R ops L O E B T0 z r k U f (⟨some d, .alloc T0, ty, pos, af, gd⟩ :: rest) Q := ⟨fun F hF =>
  RS.new [] (AV B T0 z r) (fun v => .pointer (some ⟨gOf v, 0, none⟩)) (fun _ v ⟨g, hv, _⟩ => by subst hv; rfl) rfl (fun _ _ _ h hm => h.keep hm) (fun x => wanted_of (hF x) (hw x)) (fun x w hS _ => by
    obtain ⟨v, h1, h2⟩ := t.h
    obtain ⟨i, hi, hz⟩ := Option.map_eq_some_iff.1 h1
    have hrun : (execOp (F x).eval ⟨some d, .alloc T0, ty, pos, af, gd⟩).run P w = .ok (.value (.pointer (some ⟨w.heap.size, 0, none⟩))) (w.alloc (.cells z.toArray T0)) := by
      simp [execOp, Instr.alloc, zeroValue, typeInfo, hi, hz, newVar, newRow, h2]
    unfold Oper.wp
    rw [hrun, Oper.upon_value]
    have hm : Mod (fun _ => False) w (w.alloc (.cells z.toArray T0)) := (Mod.refl _ w).alloc _
    exact ⟨_, rfl, ⟨w.heap.size, rfl, hS.2, .inl (heap_alloc_new w _)⟩, ⟨hS.1.keep hm, Nat.le_trans hS.2 hm.size⟩, hm.mono fun _ _ f => f.elim⟩) (h.run _ fun x => (hF x).put hd _)⟩
theorem SXq.store (ka : Nat) [t : TRow P T0 m] (hf : Far W L O E B) (hus : ([ka].all fun i => (reach ops ops.size k).contains i) = true) (hU : (ka, fun _ => AV B T0 z r) ∈ U) (hw : ∀ x, wantO ops (f x) ⟨none, .store T0 xo yo, ty, pos, af, gd⟩ = some true) (hx : ∀ x, evO (f x) xo = some (.pointer (some ⟨gOf (x ka), 0, none⟩))) (hy : ∀ x, evO (f x) yo = some (.agg r.toArray)) (hr : r.length = m) (hz : z.length = m) (hv : r.all (·.oneCell') = true)
    (h : SXq P n W R ops L O E B T0 z r (k + 1) ((k, SV ka T0 r) :: U) f rest Q) : SXq P n W R ops L O E B T0 z r k U f (⟨none, .store T0 xo yo, ty, pos, af, gd⟩ :: rest) Q := ⟨fun F hF =>
  RS.newx [ka] (SV ka T0 r) id (fun _ _ _ _ => rfl) hus ⟨fun _ _ _ _ h hm => h.keep hm, fun x y w v hxy h => by unfold SV at *; rw [← hxy ka List.mem_cons_self]; exact h⟩ (fun x => wanted_of (hF x) (hw x)) (fun x w hS hK => by
    obtain ⟨_, h3⟩ := t.h
    obtain ⟨g, hg, hB, hc⟩ := hK _ hU List.mem_cons_self
    have eg : gOf (x ka) = g := by rw [hg]; rfl
    have hxx := hx x
    rw [eg] at hxx
    have key : ∀ cs : List Value, cs.length = m → w.heap[g]? = some (.cells cs.toArray T0 (0, 0)) → (execOp (F x).eval ⟨none, .store T0 xo yo, ty, pos, af, gd⟩).run P w = .ok .skip (w.setCells g 0 r) ∧ (w.setCells g 0 r).heap[g]? = some (.cells r.toArray T0 (0, 0)) := fun cs hcs hb => by
      have e := run_store_row (P := P) (ty := T0) h3 (w := w) (b := g) (o := 0) (S := r.toArray) (by simp [hasRow, hb, hcs]) (by simp [openRow, hb]) (by simpa using hr) (by simpa using hv)
      refine ⟨by simp [execOp, (hF x).eval hxx, (hF x).eval (hy x), e], ?_⟩
      rw [setCells_heap g r 0 w _ _ _ hb, spl_over]
      have := over_all r cs [] (by omega)
      simp only [List.nil_append, List.length_nil] at this
      rw [this]
    have hmm := mod_setCells g r 0 w
    have fin : (execOp (F x).eval ⟨none, .store T0 xo yo, ty, pos, af, gd⟩).run P w = .ok .skip (w.setCells g 0 r) ∧ (w.setCells g 0 r).heap[g]? = some (.cells r.toArray T0 (0, 0)) ∧ TQ B T0 z r w (w.setCells g 0 r) := by
      rcases hc with hc | hc
      · obtain ⟨k1, k2⟩ := key z hz hc
        exact ⟨k1, k2, hmm.mono fun k _ e => by subst e; exact ⟨hB, hc, k2⟩⟩
      · obtain ⟨k1, k2⟩ := key r hr hc
        exact ⟨k1, k2, hmm.os, hmm.tape, hmm.output, hmm.size, fun k hk hn => by
          by_cases e : k = g
          · subst e; rw [k2, hc]
          · exact hmm.block k hk e⟩
    obtain ⟨k1, k2, k3⟩ := fin
    unfold Oper.wp
    rw [k1, Oper.upon_skip]
    exact ⟨undef, rfl, by unfold SV; rw [eg]; exact k2, ⟨Loc.keepQ hf hS.1 k3, Nat.le_trans hS.2 k3.size⟩, k3⟩) (h.run _ hF)⟩
theorem SXq.nil (ka ks : Nat) (hf : Far W L O E B) (hA : (ka, fun _ => AV B T0 z r) ∈ U) (hS : (ks, SV ka T0 r) ∈ U) (h : ∀ x, SQ n W R (⟨gOf (x ka), r, T0⟩ :: L) O E (f x) .normal Q) : SXq P n W R ops L O E B T0 z r k U f [] Q := ⟨fun F hF => RS.done fun x w hSw hU => by
  obtain ⟨g, hg, hB, _⟩ := hU _ hA
  have hs := hU _ hS
  have eg : gOf (x ka) = g := by rw [hg]; rfl
  exact (h x).run _ w (hF x) (Loc.addNew hf hSw.1 (by rw [eg]; exact hB) hs)⟩
/-! A literal slice of one cell, made in the region's head. -/
def sOf (v : Value) : Nat := match v with
  | .slice (some a) _ _ => a.block
  | _ => 0
def BV (B e : Nat) (u : Value) (w : World) (v : Value) : Prop := ∃ g, v = .slice (some ⟨g, 0, none⟩) 1 1 ∧ B ≤ g ∧ w.heap[g]? = some (.cells #[u] e (0, 0))
theorem SXq.lit1 {T e by_ : Nat} {zv u : Value} [t : TSl P T e 1] [te : TEl P e 1 by_ zv] (hf : Far W L O E B) (hw : ∀ x, wantO ops (f x) ⟨some d, .buildSlice T 1 #[(0, xo)], ty, pos, af, gd⟩ = some true) (hd : Nat.blt d n = true) (hx : ∀ x, evO (f x) xo = some u) (hv : u.cells = #[u]) (hz : zv.cells = #[zv])
    (h : SXq P n W R ops L O E B T0 [] r (k + 1) ((k, fun _ => BV B e u) :: U) (fun x => (d, .slice (some ⟨sOf (x k), 0, none⟩) 1 1) :: f x) rest Q) : SXq P n W R ops L O E B T0 [] r k U f (⟨some d, .buildSlice T 1 #[(0, xo)], ty, pos, af, gd⟩ :: rest) Q := ⟨fun F hF =>
  RS.new [] (BV B e u) (fun v => .slice (some ⟨sOf v, 0, none⟩) 1 1) (fun _ v ⟨g, hv, _⟩ => by subst hv; rfl) rfl (fun w w' v ⟨g, h1, h2, h3⟩ hm => ⟨g, h1, h2, by
    rw [hm.block g (Array.getElem?_eq_some_iff.1 h3).1 (fun hs => by have := hs.2.1; rw [h3] at this; simp at this)]
    exact h3⟩) (fun x => wanted_of (hF x) (hw x)) (fun x w hS _ => by
    obtain ⟨i0, q1, q2, q3, q4, q5, q6⟩ := te.h
    have hfill : Instr.fill (fun i => some (i, 1)) #[zv] [(0, u)] = some #[u] := by
      unfold Instr.fill
      simp [hv, Instr.fill, List.zipIdx]
      rw [hv]
      rfl
    have hrun : (execOp (F x).eval ⟨some d, .buildSlice T 1 #[(0, xo)], ty, pos, af, gd⟩).run P w = .ok (.value (.slice (some ⟨w.heap.size, 0, none⟩) 1 1)) (w.alloc (.cells #[u] e)) := by
      have e3 : (Array.range 1).map (fun _ => zv) = #[zv] := by
        apply Array.ext_getElem?
        intro i
        cases i <;> simp [Array.getElem?_map, Array.getElem?_range]
      simp only [execOp, Instr.buildSlice, Sem.run_bind, run_underlying t.h.1, Result.andThen_ok, sizeOf, typeInfo, run_program, q1, Sem.run_pure, q3, Nat.mul_one]
      simp [newRow, zeroValue, typeInfo, q1, q2, hz, Nat.mod_one, (hF x).eval (hx x), e3, hfill]
    unfold Oper.wp
    rw [hrun, Oper.upon_value]
    have hm : Mod (fun _ => False) w (w.alloc (.cells #[u] e)) := (Mod.refl _ w).alloc _
    exact ⟨_, rfl, ⟨w.heap.size, rfl, hS.2, heap_alloc_new w _⟩, ⟨hS.1.keep hm, Nat.le_trans hS.2 hm.size⟩, hm.mono fun _ _ f => f.elim⟩) (h.run _ fun x => (hF x).put hd _)⟩
theorem SXq.tail (h : ∀ x, SXl P n W R ops L O E (f x) rest Q) : SXq P n W R ops L O E B T0 z r k U f [] (fun _ a w => wpList P ops Q rest a w) := ⟨fun F hF => RS.done fun x w hSw _ => (h x).run _ w (hF x) hSw.1⟩
end
end Go.Proofs.Ythffgbhphjkdeaa
namespace Go.Proofs.Ythffgbhphjkdeaa
open Go.RowKit

/-- Where a slice lies. -/
structure SlP where
  a : Option Addr
  c : Nat
  lo : Nat
def ownRes {α : Type} (cells : α → List Value) (e sz : Nat) (l : List α) (q : SlP) : Res where
  foot := fun k => (Value.slice q.a l.length q.c).ownBlock = some k
  says := fun w => w.ownsRow q.lo e sz (.slice q.a l.length q.c) l.length (l.map cells).flatten
  stable := fun _ _ _ h hm hs => ownsRow_keep h hm hs
theorem new_own {α : Type} {cells : α → List Value} {e sz : Nat} {l : List α} {w w' : World} {en : Ending} (h : NewSlice e sz w l.length (l.map cells).flatten en w') : NewR SlP (fun q => .slice q.a l.length q.c) (ownRes cells e sz l) w en w' := by
  obtain ⟨a, c, he, ho, hm⟩ := h
  exact ⟨⟨a, c, w.heap.size⟩, he, ⟨ho, fun k hk => ownBlock_lt ho hk⟩, hm⟩
theorem own_in {α : Type} {cells : α → List Value} {e sz : Nat} {l : List α} {q : SlP} {W : World} {R : Rg W} {L : List Blk} {O : List Own} {E : List Res} {w : World} (h : Loc W R L O E w) (hm : ownRes cells e sz l q ∈ E) (hc : ∀ x, (cells x).length = sz) (hsz : sz ≠ 0) : SliceAt (Flat cells) sz (fun k => q.lo ≤ k) w q.a l := own_slice (h.res _ hm).1 hc hsz
end Go.Proofs.Ythffgbhphjkdeaa
namespace Go.Proofs.Ythffgbhphjkdeaa
open Go.RowKit
set_option linter.unusedVariables false
set_option linter.unusedSimpArgs false

/-- Slices of the call's own, each in a block of its own. -/
structure Owns (base : Nat) (w : World) (os : List Own) : Prop where
  row : ∀ o ∈ os, w.ownsRow base o.e o.sz o.v o.n o.xs
  apart : os.Pairwise (fun a b => ∀ k, a.v.ownBlock = some k → b.v.ownBlock ≠ some k)
theorem Owns.nil (base : Nat) (w : World) : Owns base w [] := ⟨fun _ h => (List.not_mem_nil h).elim, .nil⟩
theorem Owns.mod {base : Nat} {w w' : World} {os : List Own} {S : Nat → Prop} (h : Owns base w os) (hm : Mod S w w') (hs : ∀ o ∈ os, ∀ k, o.v.ownBlock = some k → ¬ S k) : Owns base w' os :=
  ⟨fun o ho => ownsRow_keep (h.row o ho) hm (hs o ho), h.apart⟩
theorem Owns.keep {base : Nat} {w w' : World} {os : List Own} (h : Owns base w os) (hm : Mod (fun _ => False) w w') : Owns base w' os := h.mod hm fun _ _ _ _ f => f
theorem Owns.low {base base' : Nat} {w : World} {os : List Own} (h : Owns base w os) (hb : base' ≤ base) : Owns base' w os := ⟨fun o ho => World.ownsRow.mono (h.row o ho) hb, h.apart⟩
theorem Owns.left {base : Nat} {w : World} {os ps : List Own} (h : Owns base w (os ++ ps)) : Owns base w os := ⟨fun o ho => h.row o (List.mem_append_left _ ho), (List.pairwise_append.1 h.apart).1⟩
theorem Owns.sub {base : Nat} {w : World} {os ps : List Own} (h : Owns base w ps) (hs : os.Sublist ps) : Owns base w os := ⟨fun o ho => h.row o (hs.subset ho), h.apart.sublist hs⟩
def NewO (ξ : Type) (v : ξ → Value) (os : ξ → List Own) (K : ξ → Prop) (w : World) (e : Ending) (w' : World) : Prop :=
  ∃ x, e = .returned (v x) ∧ K x ∧ Owns w.heap.size w' (os x) ∧ Mod (fun _ => False) w w'
def DrewO (ξ : Type) (T : TypeId) (B g : Nat) (v : ξ → Value) (os : ξ → List Own) (K : ξ → Prop) (w : World) (e : Ending) (w' : World) : Prop :=
  ∃ x, e = .returned (v x) ∧ K x ∧ Owns w.heap.size w' (os x) ∧ Mod (fun k => k = g) w w' ∧ Cur B T w' g

section
variable {P : Program} {n : Nat} {W : World} {R : Rg W} {L : List Blk} {O : List Own} {E : List Res} {w w' : World} {B : Nat} {os : List Own}
theorem Loc.owns (h : Loc W R L O E w) : Owns W.heap.size w O := ⟨fun o ho => (h.own o ho).1, h.ownApart⟩
theorem Loc.addOwns (hf : Far W L O E B) (h : Loc W R L O E w) (ho : Owns B w os) : Loc W R L (os ++ O) E w where
  mod := h.mod
  inv := h.inv
  blk := h.blk
  apart := h.apart
  own := fun o hm => by
    rcases List.mem_append.1 hm with hm | hm
    · refine ⟨World.ownsRow.mono (ho.row o hm) hf.old, fun b hb e => ?_⟩
      have := hf.blk b hb
      have := (ownBlock_lt (ho.row o hm) e).1
      omega
    · exact h.own o hm
  ownApart := List.pairwise_append.2 ⟨ho.apart, h.ownApart, fun a ha b hb k hk e => by
    have := hf.own b hb k e
    have := (ownBlock_lt (ho.row a ha) hk).1
    omega⟩
  res := fun F hF => ⟨(h.res F hF).1, (h.res F hF).2.1, (h.res F hF).2.2.1, fun o hm k hk f => by
    rcases List.mem_append.1 hm with hm | hm
    · have := hf.res F hF k f
      have := (ownBlock_lt (ho.row o hm) hk).1
      omega
    · exact (h.res F hF).2.2.2 o hm k hk f⟩
  resNew := h.resNew
  resApart := h.resApart
theorem Loc.gotOwns (h : Loc W R L O E w) (hm : Mod (fun _ => False) w w') (ho : Owns w.heap.size w' os) : Loc W R L (os ++ O) E w' :=
  (h.keep hm).addOwns h.far ho
/-- Slices are put in another order, or dropped. -/
theorem Loc.ownSub (h : Loc W R L O E w) (hs : os.Sublist O) : Loc W R L os E w where
  mod := h.mod
  inv := h.inv
  blk := h.blk
  apart := h.apart
  own := fun o hm => h.own o (hs.subset hm)
  ownApart := h.ownApart.sublist hs
  res := fun F hF => ⟨(h.res F hF).1, (h.res F hF).2.1, (h.res F hF).2.2.1, fun o hm k hk f => (h.res F hF).2.2.2 o (hs.subset hm) k hk f⟩
  resNew := h.resNew
  resApart := h.resApart
theorem Loc.ownPerm (h : Loc W R L O E w) (hs : os.Perm O) : Loc W R L os E w where
  mod := h.mod
  inv := h.inv
  blk := h.blk
  apart := h.apart
  own := fun o hm => h.own o (hs.subset hm)
  ownApart := (hs.symm.pairwise_iff (fun {a b} hab k hk e => hab k e hk)).1 h.ownApart
  res := fun F hF => ⟨(h.res F hF).1, (h.res F hF).2.1, (h.res F hF).2.2.1, fun o hm k hk f => (h.res F hF).2.2.2 o (hs.subset hm) k hk f⟩
  resNew := h.resNew
  resApart := h.resApart
theorem Loc.ownCell {i g m c e sz j : Nat} {xs : List Value} (h : Loc W R L O E w) (hi : O[i]? = some ⟨.slice (some ⟨g, 0, none⟩) m c, e, sz, m, xs⟩) {v : Value} (hv : xs[j]? = some v) : w.cell? ⟨g, j, none⟩ = some v := by
  have ho := (h.own _ (List.mem_iff_getElem?.2 ⟨i, hi⟩)).1
  simp only at ho
  rw [ho.cellAt j (by rw [← ho.1]; exact (List.getElem?_eq_some_iff.1 hv).1), hv]
end
theorem own_setCells {base e sz g n c : Nat} : ∀ (r : List Value) (o : Nat) (w : World) (xs : List Value), w.ownsRow base e sz (.slice (some ⟨g, 0, none⟩) n c) n xs → (w.setCells g o r).ownsRow base e sz (.slice (some ⟨g, 0, none⟩) n c) n (over xs o r)
  | [], _, _, _, h => h
  | v :: r, o, w, xs, h => own_setCells r (o + 1) _ _ (h.stored o v).1
section
variable {P : Program} {n : Nat} {W : World} {R : Rg W} {L : List Blk} {O : List Own} {E : List Res} {f : List (Nat × Value)} {Q : Exit → Act → World → Prop} {ops : Array Oper} {rest : List Oper} {d : Option Tmp} {dn : Nat} {T : TypeId} {x y : Operand} {ty : TypeId} {pos : String} {af : Array Edge} {gd : Option (Nat × Bool)} {g o : Nat}
/-- One cell that is told. -/
theorem OpW.loadLoc {v : Value} [TOne P T] (hx : evO f x = some (.pointer (some ⟨g, o, none⟩))) (hv : ∀ w, Loc W R L O E w → w.cell? ⟨g, o, none⟩ = some v) : OpW P n W R L O E f ⟨d, .load T x, ty, pos, af, gd⟩ v :=
  OpW.of (fun a w hf hl => by simp [execOp, hf.eval hx, run_load1 (hv w hl)])
/-- One cell of a slice of the call's own. -/
theorem OpW.loadOwn {v : Value} {m c e sz : Nat} {xs : List Value} (i : Nat) [TOne P T] (hx : evO f x = some (.pointer (some ⟨g, o, none⟩))) (hi : O[i]? = some ⟨.slice (some ⟨g, 0, none⟩) m c, e, sz, m, xs⟩) (hv : xs[o]? = some v) : OpW P n W R L O E f ⟨d, .load T x, ty, pos, af, gd⟩ v :=
  OpW.loadLoc hx fun w hl => hl.ownCell hi hv
theorem SXl.storeOwn {v : Value} {O' : List Own} {m c e sz : Nat} {xs : List Value} (i : Nat) [TOne P T] (hw : wantO ops f ⟨none, .store T x y, ty, pos, af, gd⟩ = some true) (hx : evO f x = some (.pointer (some ⟨g, o, none⟩))) (hy : evO f y = some v)
    (hi : O[i]? = some ⟨.slice (some ⟨g, 0, none⟩) m c, e, sz, m, xs⟩) (ho : o < xs.length) (hv : v.oneCell' = true) (hO : O.set i ⟨.slice (some ⟨g, 0, none⟩) m c, e, sz, m, xs.set o v⟩ = O') (h : SXl P n W R ops L O' E f rest Q) : SXl P n W R ops L O E f (⟨none, .store T x y, ty, pos, af, gd⟩ :: rest) Q :=
  SXl.steps hw rfl (fun a w hf hl => by
    have hown := (hl.own _ (List.mem_iff_getElem?.2 ⟨i, hi⟩)).1
    simp only at hown
    refine ⟨w.setCell ⟨g, o, none⟩ v, ?_, hO ▸ hl.ownTurned hi ?_ (hown.stored o v).1 (.inl rfl)⟩
    · simp [execOp, hf.eval hx, hf.eval hy, run_store1 (hl.ownCell hi (List.getElem?_eq_getElem ho)) (hown.frozenAt o) hv]
    · exact ((Mod.refl _ w).setAt _ _ _).mono fun k _ e => by subst e; rfl) h
theorem SXl.storeRowOwn {r : List Value} {O' : List Own} {m c e sz k : Nat} {xs : List Value} (i : Nat) [t : TRow P T k] (hw : wantO ops f ⟨none, .store T x y, ty, pos, af, gd⟩ = some true) (hx : evO f x = some (.pointer (some ⟨g, o, none⟩))) (hy : evO f y = some (.agg r.toArray))
    (hi : O[i]? = some ⟨.slice (some ⟨g, 0, none⟩) m c, e, sz, m, xs⟩) (ho : o + k ≤ xs.length) (hm : r.length = k) (hv : r.all (·.oneCell') = true) (hO : O.set i ⟨.slice (some ⟨g, 0, none⟩) m c, e, sz, m, over xs o r⟩ = O') (h : SXl P n W R ops L O' E f rest Q) : SXl P n W R ops L O E f (⟨none, .store T x y, ty, pos, af, gd⟩ :: rest) Q :=
  SXl.steps hw rfl (fun a w hf hl => by
    obtain ⟨_, h3⟩ := t.h
    have hown := (hl.own _ (List.mem_iff_getElem?.2 ⟨i, hi⟩)).1
    simp only at hown
    have hrow : hasRow w g o k = true ∧ openRow w g = true := by
      rcases hown.2 with ⟨h', _⟩ | ⟨g', cap', cur, h', _, hg, hnc, _, hcs, _⟩
      · simp at h'
      · simp only [Value.slice.injEq, Option.some.injEq, Addr.mk.injEq, and_true, true_and] at h'
        obtain ⟨rfl, rfl⟩ := h'
        have h1 := hown.1
        have h2 := Nat.mul_le_mul_right sz hnc
        exact ⟨by simp only [hasRow, hg]; simp; omega, by simp [openRow, hg]⟩
    have e := run_store_row (P := P) (ty := T) h3 (w := w) (b := g) (o := o) (S := r.toArray) hrow.1 hrow.2 (by simpa using hm) (by simpa using hv)
    refine ⟨w.setCells g o r, by simp [execOp, hf.eval hx, hf.eval hy, e], hO ▸ hl.ownTurned hi ?_ (own_setCells r o w _ hown) (.inl rfl)⟩
    exact (mod_setCells g r o w).mono fun k _ e => by subst e; rfl) h
/-- A call that hands back slices of the call's own. -/
theorem SXl.callO {ξ : Type} {v : ξ → Value} {os : ξ → List Own} {K : ξ → Prop} {fn : FuncId} {ars : List Operand} {args : List Value} {aT : Array TypeId} [TFun P fn] (hw : wantO ops f ⟨some dn, .call ⟨.value (.func fn), ars.toArray, aT⟩, ty, pos, af, gd⟩ = some true) (hd : Nat.blt dn n = true) (ha : evL f ars = some args)
    (hc : ∀ w, Loc W R L O E w → Calls P fn args.toArray w (NewO ξ v os K w))
    (h : ∀ x, K x → SXl P n W R ops L (os x ++ O) E ((dn, v x) :: f) rest Q) : SXl P n W R ops L O E f (⟨some dn, .call ⟨.value (.func fn), ars.toArray, aT⟩, ty, pos, af, gd⟩ :: rest) Q := ⟨fun a w hf hl => by
  unfold wpList
  rw [if_pos (wanted_of hf hw)]
  refine .inl ?_
  unfold Oper.wp
  rw [run_callop hf ha w _ _, Oper.upon_enter]
  refine (hc w hl).mono ?_
  rintro e w' ⟨x, rfl, hk, ho, hm⟩
  exact (h x hk).run _ _ (hf.put hd _) (hl.gotOwns hm ho)⟩
/-- The same, with a draw from a cursor. -/
theorem SXl.drawO {ξ : Type} {v : ξ → Value} {os : ξ → List Own} {K : ξ → Prop} {fn : FuncId} {ars : List Operand} {args : List Value} {aT : Array TypeId} [TFun P fn] (i : Nat) (hw : wantO ops f ⟨some dn, .call ⟨.value (.func fn), ars.toArray, aT⟩, ty, pos, af, gd⟩ = some true) (hd : Nat.blt dn n = true) (ha : evL f ars = some args)
    {TC gc : Nat} (hi : E[i]? = some (curRes TC W gc))
    (hc : ∀ w, Loc W (Rg.none W) L O E w → Cur W.heap.size TC w gc → Calls P fn args.toArray w (DrewO ξ TC W.heap.size gc v os K w))
    (h : ∀ x, K x → SXl P n W (Rg.none W) ops L (os x ++ O) E ((dn, v x) :: f) rest Q) : SXl P n W (Rg.none W) ops L O E f (⟨some dn, .call ⟨.value (.func fn), ars.toArray, aT⟩, ty, pos, af, gd⟩ :: rest) Q := ⟨fun a w hf hl => by
  unfold wpList
  rw [if_pos (wanted_of hf hw)]
  refine .inl ?_
  unfold Oper.wp
  rw [run_callop hf ha w _ _, Oper.upon_enter]
  have hmem : curRes TC W gc ∈ E := List.mem_iff_getElem?.2 ⟨i, hi⟩
  have hs := (hl.res _ hmem).1
  have hnew := hl.resNew _ hmem gc rfl
  have hE : E.set i (curRes TC W gc) = E := by
    refine List.ext_getElem? fun j => ?_
    rw [List.getElem?_set]
    split
    · rename_i e
      subst e
      rw [hi]
      split
      · rfl
      · rename_i hlt
        exact (hlt (List.getElem?_eq_some_iff.1 hi).1).elim
    · rfl
  refine (hc w hl (cur_of hl.mod hs)).mono ?_
  rintro e w' ⟨x, rfl, hk, ho, hm, hcur⟩
  have h1 : Loc W (Rg.none W) L O E w' := by
    have := hl.retold (F' := curRes TC W gc) hi hm (of_cur (fun k hk2 => by
      rw [hm.block k (Nat.lt_of_lt_of_le hk2 hl.mod.size) (fun e => by omega), hl.mod.block k hk2 (fun f => f)]) hcur) (fun _ h => h)
    rwa [hE] at this
  exact (h x hk).run _ _ (hf.put hd _) (h1.addOwns hl.far ho)⟩
/-- The same, where the cursor is old memory that the call may turn. -/
theorem SXl.drawOJ {ξ : Type} {v : ξ → Value} {os : ξ → List Own} {K : ξ → Prop} {fn : FuncId} {ars : List Operand} {args : List Value} {aT : Array TypeId} [TFun P fn] {TC B gc : Nat} {hg : gc < W.heap.size} {hB : B ≤ gc} (hw : wantO ops f ⟨some dn, .call ⟨.value (.func fn), ars.toArray, aT⟩, ty, pos, af, gd⟩ = some true) (hd : Nat.blt dn n = true) (ha : evL f ars = some args)
    (hc : ∀ w, Loc W (curRg TC B gc W hg hB) L O E w → Calls P fn args.toArray w (DrewO ξ TC B gc v os K w))
    (h : ∀ x, K x → SXl P n W (curRg TC B gc W hg hB) ops L (os x ++ O) E ((dn, v x) :: f) rest Q) : SXl P n W (curRg TC B gc W hg hB) ops L O E f (⟨some dn, .call ⟨.value (.func fn), ars.toArray, aT⟩, ty, pos, af, gd⟩ :: rest) Q := ⟨fun a w hf hl => by
  unfold wpList
  rw [if_pos (wanted_of hf hw)]
  refine .inl ?_
  unfold Oper.wp
  rw [run_callop hf ha w _ _, Oper.upon_enter]
  refine (hc w hl).mono ?_
  rintro e w' ⟨x, rfl, hk, ho, hm, hj⟩
  refine (h x hk).run _ _ (hf.put hd _) (Loc.addOwns hl.far ?_ ho)
  exact {
    mod := hl.mod.then hm fun _ _ h => h
    inv := hj
    blk := fun b hb => ⟨(hl.blk b hb).1, hm.blk (hl.blk b hb).2 fun e => by
      rcases (hl.blk b hb).1 with h2 | h2
      · exact h2.elim
      · omega⟩
    apart := hl.apart
    own := fun q hq' => ⟨ownsRow_keep (hl.own q hq').1 hm fun k hk e => by have := (ownBlock_lt (hl.own q hq').1 hk).1; omega, (hl.own q hq').2⟩
    ownApart := hl.ownApart
    res := fun F hF => ⟨F.stable _ _ _ (hl.res F hF).1 hm (fun k hk e => by have := hl.resNew F hF k hk; omega), fun k hk => Nat.lt_of_lt_of_le ((hl.res F hF).2.1 k hk) hm.size, (hl.res F hF).2.2⟩
    resNew := hl.resNew
    resApart := hl.resApart }⟩
end
end Go.Proofs.Ythffgbhphjkdeaa
namespace Go.Proofs.Ythffgbhphjkdeaa
open Go.RowKit
set_option linter.unusedVariables false
set_option linter.unusedSimpArgs false

/-- One block of old memory may turn; it is held as a block of the call's own. -/
def Rg.row (W : World) (g : Nat) (h : g < W.heap.size) : Rg W := ⟨fun k => k = g, fun k => k = g, fun _ => True, fun _ e => e ▸ h, fun _ h => h, fun _ _ _ _ _ _ => trivial⟩
section
variable {P : Program} {n : Nat} {W : World} {R : Rg W} {L : List Blk} {O : List Own} {E : List Res} {f : List (Nat × Value)} {Q : Exit → Act → World → Prop} {ops : Array Oper} {rest : List Oper} {d : Option Tmp} {ty : TypeId} {pos : String} {af : Array Edge} {gd : Option (Nat × Bool)} {dn : Nat}
theorem calls_sxL {fid : FuncId} {fn : Func} {c : Code} {args : List Value} {w : World} {g : Nat} {cells : List Value} {T : TypeId} (hg : w.heap[g]? = some (.cells cells.toArray T (0, 0))) (hlt : g < w.heap.size) {R' : Ending → World → Prop} {f : List (Nat × Value)} (hf : P.funcs[fid]? = some fn) (hb : fn.body = some c) (hn : fn.ntmps = n)
    (hfr : ∀ a : Act, a.defers = [] → n ≤ a.tmps.size → (∀ (t : Nat) (v : Value), args[t]? = some v → a.tmps[t]? = some v) → Fr n f a)
    (h : SX P n w (Rg.row w g hlt) [⟨g, cells, T⟩] [] [] f c (bodyPost P fn R')) : Calls P fid args.toArray w R' := by
  refine calls_of_wp hf hb (h.run _ w (hfr _ rfl ?_ ?_) ⟨Mod.refl _ _, trivial, fun b hb => by obtain rfl := List.mem_singleton.1 hb; exact ⟨.inl rfl, hg⟩, by simp, by simp, by simp, by simp, by simp, by simp⟩)
  · simp; omega
  · intro t v ht
    have hlt := (List.getElem?_eq_some_iff.1 ht).1
    obtain ⟨_, e⟩ := List.getElem?_eq_some_iff.1 ht
    simp [Array.getElem?_append, hlt, e]
theorem run_callv {x : Operand} {fn : FuncId} {bound : List Value} {ars : List Operand} {args : List Value} {aT : Array TypeId} {a : Act} (hf : Fr n f a) (hx : evO f x = some (.func (.func fn) #[] bound.toArray)) (ha : evL f ars = some args) (w : World) (dd : Option Tmp) (g : Option (Nat × Bool)) :
    (execOp a.eval ⟨dd, .call ⟨.value x, ars.toArray, aT⟩, ty, pos, af, g⟩).run P w = (callFunc fn (args ++ bound).toArray).run P w := by
  have e := evL_map hf ars args ha
  simp [execOp, resolve, hf.eval hx, Deferred.ofValue, invoke, e]
/-- A call through a function value. -/
theorem OpW.callv {v : Value} {x : Operand} {fn : FuncId} {bound : List Value} {ars : List Operand} {args : List Value} {aT : Array TypeId} [TFun P fn] (hx : evO f x = some (.func (.func fn) #[] bound.toArray)) (ha : evL f ars = some args)
    (hc : ∀ w, Loc W R L O E w → Calls P fn (args ++ bound).toArray w fun e w' => e = .returned v ∧ Mod (fun _ => False) w w') : OpW P n W R L O E f ⟨d, .call ⟨.value x, ars.toArray, aT⟩, ty, pos, af, gd⟩ v :=
  OpW.enter (fun _ w hf _ => (run_callv hf hx ha w _ _).trans (run_call _)) hc
theorem l_callv {t : Nat} {ars : Array Operand} {aT : Array TypeId} (h : SXl P n W R ops L O E f (⟨d, .call ⟨.value (.tmp t), ars, aT⟩, ty, pos, af, gd⟩ :: rest) Q) : SXl P n W R ops L O E f (⟨d, .call ⟨.value (.tmp t), ars, aT⟩, ty, pos, af, gd⟩ :: rest) Q := h
/-- A call that turns one block of the call's own. -/
theorem SXl.callL {v : Value} {g : Nat} {cells cells' : List Value} {T : TypeId} {L' : List Blk} {fn : FuncId} {ars : List Operand} {args : List Value} {aT : Array TypeId} [TFun P fn] (i : Nat) (hw : wantO ops f ⟨some dn, .call ⟨.value (.func fn), ars.toArray, aT⟩, ty, pos, af, gd⟩ = some true) (hd : Nat.blt dn n = true) (ha : evL f ars = some args) (hi : L[i]? = some ⟨g, cells, T⟩)
    (hc : ∀ w, Loc W R L O E w → Calls P fn args.toArray w fun e w' => e = .returned v ∧ Mod (fun k => k = g) w w' ∧ w'.heap[g]? = some (.cells cells'.toArray T (0, 0))) (hL : L.set i ⟨g, cells', T⟩ = L')
    (h : SXl P n W R ops L' O E ((dn, v) :: f) rest Q) : SXl P n W R ops L O E f (⟨some dn, .call ⟨.value (.func fn), ars.toArray, aT⟩, ty, pos, af, gd⟩ :: rest) Q := ⟨fun a w hf hl => by
  unfold wpList
  rw [if_pos (wanted_of hf hw)]
  refine .inl ?_
  unfold Oper.wp
  rw [run_callop hf ha w _ _, Oper.upon_enter]
  refine (hc w hl).mono ?_
  rintro e w' ⟨rfl, hm, hb⟩
  exact h.run _ _ (hf.put hd _) (hL ▸ hl.turned hi hm hb)⟩
/-- A call that turns one slice of the call's own. -/
theorem SXl.callR {v : Value} {o o' : Own} {O' : List Own} {fn : FuncId} {ars : List Operand} {args : List Value} {aT : Array TypeId} [TFun P fn] (i : Nat) (hw : wantO ops f ⟨some dn, .call ⟨.value (.func fn), ars.toArray, aT⟩, ty, pos, af, gd⟩ = some true) (hd : Nat.blt dn n = true) (ha : evL f ars = some args) (hi : O[i]? = some o)
    (hc : ∀ w, Loc W R L O E w → Calls P fn args.toArray w fun e w' => e = .returned v ∧ Mod (fun k => o.v.ownBlock = some k) w w' ∧ w'.ownsRow W.heap.size o'.e o'.sz o'.v o'.n o'.xs) (hv : o'.v = o.v) (hO : O.set i o' = O')
    (h : SXl P n W R ops L O' E ((dn, v) :: f) rest Q) : SXl P n W R ops L O E f (⟨some dn, .call ⟨.value (.func fn), ars.toArray, aT⟩, ty, pos, af, gd⟩ :: rest) Q := ⟨fun a w hf hl => by
  unfold wpList
  rw [if_pos (wanted_of hf hw)]
  refine .inl ?_
  unfold Oper.wp
  rw [run_callop hf ha w _ _, Oper.upon_enter]
  refine (hc w hl).mono ?_
  rintro e w' ⟨rfl, hm, ho⟩
  exact h.run _ _ (hf.put hd _) (hO ▸ hl.ownTurned hi hm ho (.inl (by rw [hv])))⟩
theorem SQ.body0n {fn : Func} {R' : Ending → World → Prop} (hr : fn.results = #[]) (h : ∀ w, Loc W R L O E w → R' (.returned (.tuple #[])) w) : SQ n W R L O E f .normal (bodyPost P fn R') :=
  ⟨fun a w hf hl => ⟨hf.defers, _, results_none hr _ _ _, h w hl⟩⟩
/-- Two elements swapped. -/
def swapL (xs : List Int) (i j : Nat) : List Int := (xs.set i ((xs[j]?).getD 0)).set j ((xs[i]?).getD 0)
theorem row_holds {w : World} {g : Nat} {T : TypeId} {xs : List Int} {spare : List Value} (h : w.heap[g]? = some (.cells (xs.map (Value.int .i64) ++ spare).toArray T (0, 0))) : Go.Sort.Holds (Value.int .i64) w g 0 xs.toArray := fun j hj => by
  have hj' : j < xs.length := by simpa using hj
  constructor
  · have e : (xs.map (Value.int .i64) ++ spare)[j]? = some (.int .i64 xs.toArray[j]!) := by
      rw [List.getElem?_append_left (by simpa using hj'), List.getElem?_map, List.getElem?_eq_getElem hj', getElem!_pos xs.toArray j hj]
      rfl
    rw [Nat.zero_add]
    exact blk_cell h e
  · exact blk_free h _
/-- The swap of a sort's row. -/
theorem SXl.swapv {x : Operand} {sf : FuncId} {sb : List Value} {ars : List Operand} {aT : Array TypeId} {g i j : Nat} {T : TypeId} {xs : List Int} {spare : List Value} {L' : List Blk} (k : Nat) (hk : L[k]? = some ⟨g, xs.map (Value.int .i64) ++ spare, T⟩)
    (hsw : SwapSwaps P sf sb.toArray (Value.int .i64) g 0 xs.length) (hw : wantO ops f ⟨some dn, .call ⟨.value x, ars.toArray, aT⟩, ty, pos, af, gd⟩ = some true) (hd : Nat.blt dn n = true) (hx : evO f x = some (.func (.func sf) #[] sb.toArray)) (ha : evL f ars = some [.int .i64 (i : Int), .int .i64 (j : Int)])
    (hi : i < xs.length) (hj : j < xs.length) (hL : L.set k ⟨g, (swapL xs i j).map (Value.int .i64) ++ spare, T⟩ = L')
    (h : SXl P n W R ops L' O E ((dn, .tuple #[]) :: f) rest Q) : SXl P n W R ops L O E f (⟨some dn, .call ⟨.value x, ars.toArray, aT⟩, ty, pos, af, gd⟩ :: rest) Q := ⟨fun a w hf hl => by
  have hb := (hl.blk _ (List.mem_iff_getElem?.2 ⟨k, hk⟩)).2
  simp only at hb
  unfold wpList
  rw [if_pos (wanted_of hf hw)]
  refine .inl ?_
  unfold Oper.wp
  have hr := hsw w xs.toArray (row_holds hb) (by simp) i j (by simpa using hi) (by simpa using hj)
  rw [run_callv hf hx ha w _ _, show ([Value.int .i64 (i : Int), Value.int .i64 (j : Int)] ++ sb).toArray = #[Value.int .i64 (i : Int), Value.int .i64 (j : Int)] ++ sb.toArray by simp, hr, Oper.upon_value]
  refine h.run _ _ (hf.put hd _) ?_
  have h1 := hl.set (j := 0 + i) hk (.int .i64 xs.toArray[j]!)
  have hk2 : (L.set k ⟨g, (xs.map (Value.int .i64) ++ spare).set (0 + i) (.int .i64 xs.toArray[j]!), T⟩)[k]? = some ⟨g, (xs.map (Value.int .i64) ++ spare).set (0 + i) (.int .i64 xs.toArray[j]!), T⟩ := by
    rw [List.getElem?_set_self (List.getElem?_eq_some_iff.1 hk).1]
  have h2 := h1.set (j := 0 + j) hk2 (.int .i64 xs.toArray[i]!)
  rw [List.set_set] at h2
  have e : ((xs.map (Value.int .i64) ++ spare).set (0 + i) (.int .i64 xs.toArray[j]!)).set (0 + j) (.int .i64 xs.toArray[i]!) = (swapL xs i j).map (Value.int .i64) ++ spare := by
    rw [Nat.zero_add, Nat.zero_add, List.set_append_left _ _ (by simpa using hi), List.set_append_left _ _ (by simpa using hj), swapL, List.map_set, List.map_set]
    simp [getElem!_pos, hi, hj, List.getElem?_eq_getElem]
  rw [e, hL] at h2
  exact h2⟩
end
end Go.Proofs.Ythffgbhphjkdeaa
namespace Go.Proofs.Ythffgbhphjkdeaa
open Go.RowKit

def inB (n a b : Int) : Bool := decide (a ≤ n ∧ n ≤ b)
theorem inB_true {n a b : Int} (h1 : a ≤ n) (h2 : n ≤ b) : inB n a b = true := by simp [inB, h1, h2]
theorem inB_low {n a b : Int} (h : n < a) : inB n a b = false := by simp [inB]; omega
theorem inB_high {n a b : Int} (h : b < n) : inB n a b = false := by simp [inB]; omega

theorem in_any (n a b : Int) (w : World) : Calls Try.prog 75 #[.int .i64 n, .int .i64 a, .int .i64 b] w fun e w' => e = .returned (.bool (inB n a b)) ∧ w = w' := by
  by_cases h1 : a ≤ n
  · by_cases h2 : n ≤ b
    · rw [inB_true h1 h2]
      go_enter Try.func75, Try.ntmps75
      go_wp2
      go_ret
      exact ⟨rfl, rfl⟩
    · rw [inB_high (by omega)]
      go_enter Try.func75, Try.ntmps75
      go_wp2
      go_ret
      exact ⟨rfl, rfl⟩
  · rw [inB_low (by omega)]
    go_enter Try.func75, Try.ntmps75
    go_wp2
    go_ret
    exact ⟨rfl, rfl⟩

theorem l01In_any (n a b : Int) (w : World) : Calls Try.prog 80 #[.int .i64 n, .int .i64 a, .int .i64 b] w fun e w' => e = .returned (.bool (inB n a b)) ∧ w = w' := by
  by_cases h1 : a ≤ n
  · by_cases h2 : n ≤ b
    · rw [inB_true h1 h2]
      go_enter Try.func80, Try.ntmps80
      go_wp2
      go_ret
      exact ⟨rfl, rfl⟩
    · rw [inB_high (by omega)]
      go_enter Try.func80, Try.ntmps80
      go_wp2
      go_ret
      exact ⟨rfl, rfl⟩
  · rw [inB_low (by omega)]
    go_enter Try.func80, Try.ntmps80
    go_wp2
    go_ret
    exact ⟨rfl, rfl⟩

end Go.Proofs.Ythffgbhphjkdeaa
namespace Go.Proofs.Ythffgbhphjkdeaa

structure Space where
  mode : Int
  n : Int
  deriving DecidableEq, Inhabited
def Space.cells (s : Space) : List Value := [.int .i64 s.mode, .int .i64 s.n]

structure Asked where
  node : Int
  wide : Space
  high : Space
  rtl : Bool
  deriving DecidableEq, Inhabited
def Asked.cells (x : Asked) : List Value := [.int .i64 x.node, .int .i64 x.wide.mode, .int .i64 x.wide.n, .int .i64 x.high.mode, .int .i64 x.high.n, .bool x.rtl]

structure Rule where
  room : Int
  wide : Int
  high : Int
  deriving DecidableEq, Inhabited
def Rule.cells (x : Rule) : List Value := [.int .i64 x.room, .int .i64 x.wide, .int .i64 x.high]

structure Val where
  kind : Int
  n : Int
  deriving DecidableEq, Inhabited
def Val.cells (x : Val) : List Value := [.int .i64 x.kind, .int .i64 x.n]

structure ActD where
  kind : Int
  n : Int
  kid : Int
  pl : Int
  key : ByteArray
  value : Val
  table : List Rule
  wide : Int
  high : Int
  rtl : Bool
/-- An action's cells: the table is a slice. -/
def repAct (R : Nat → Prop) (w : World) (cs : List Value) (x : ActD) : Prop :=
  ∃ a c, cs = [.int .i64 x.kind, .int .i64 x.n, .int .i64 x.kid, .int .i64 x.pl, .string x.key, .int .i64 x.value.kind, .int .i64 x.value.n, .slice a x.table.length c, .int .i64 x.wide, .int .i64 x.high, .bool x.rtl] ∧ SliceAt (Flat Rule.cells) 3 R w a x.table
theorem repAct.mod {R S : Nat → Prop} {w w' : World} {cs : List Value} {x : ActD} (h : repAct R w cs x) (hm : Mod S w w') (hs : ∀ k, R k → ¬ S k) : repAct R w' cs x := by
  obtain ⟨a, c, h1, h2⟩ := h
  exact ⟨a, c, h1, h2.flatMod hm hs⟩

structure Frame where
  node : Int
  x : Int
  y : Int
  wide : Int
  high : Int
  deriving DecidableEq, Inhabited
def Frame.cells (f : Frame) : List Value := [.int .i64 f.node, .int .i64 f.x, .int .i64 f.y, .int .i64 f.wide, .int .i64 f.high]
structure Memo where
  node : Int
  wide : Space
  high : Space
  rtl : Bool
  bw : Int
  bh : Int
  bb : Int
  frames : List Frame
  deriving DecidableEq, Inhabited

end Go.Proofs.Ythffgbhphjkdeaa
namespace Go.Proofs.Ythffgbhphjkdeaa
open Go.RowKit

end Go.Proofs.Ythffgbhphjkdeaa
namespace Go.Proofs.Ythffgbhphjkdeaa
open Go.RowKit

structure Sides where
  left : Val
  top : Val
  right : Val
  bottom : Val
  start : Val
  stop : Val
  deriving DecidableEq, Inhabited
def Sides.cells (x : Sides) : List Value := [.int .i64 x.left.kind, .int .i64 x.left.n, .int .i64 x.top.kind, .int .i64 x.top.n, .int .i64 x.right.kind, .int .i64 x.right.n, .int .i64 x.bottom.kind, .int .i64 x.bottom.n, .int .i64 x.start.kind, .int .i64 x.start.n, .int .i64 x.stop.kind, .int .i64 x.stop.n]

structure Edges where
  left : Int
  top : Int
  right : Int
  bottom : Int
  deriving DecidableEq, Inhabited
def Edges.cells (x : Edges) : List Value := [.int .i64 x.left, .int .i64 x.top, .int .i64 x.right, .int .i64 x.bottom]

structure Style where
  dir : Int
  wrap : Int
  justify : Int
  items : Int
  self : Int
  content : Int
  apart : Bool
  hidden : Bool
  order : Int
  grow : Int
  shrink : Int
  basis : Val
  width : Val
  height : Val
  minWidth : Val
  minHeight : Val
  maxWidth : Val
  maxHeight : Val
  ratio : Int
  margin : Sides
  inset : Sides
  pad : Edges
  border : Edges
  rowGap : Int
  colGap : Int
  deriving DecidableEq, Inhabited
def Style.cells (x : Style) : List Value := [.int .i64 x.dir, .int .i64 x.wrap, .int .i64 x.justify, .int .i64 x.items, .int .i64 x.self, .int .i64 x.content, .bool x.apart, .bool x.hidden, .int .i64 x.order, .int .i64 x.grow, .int .i64 x.shrink, .int .i64 x.basis.kind, .int .i64 x.basis.n, .int .i64 x.width.kind, .int .i64 x.width.n, .int .i64 x.height.kind, .int .i64 x.height.n, .int .i64 x.minWidth.kind, .int .i64 x.minWidth.n, .int .i64 x.minHeight.kind, .int .i64 x.minHeight.n, .int .i64 x.maxWidth.kind, .int .i64 x.maxWidth.n, .int .i64 x.maxHeight.kind, .int .i64 x.maxHeight.n, .int .i64 x.ratio, .int .i64 x.margin.left.kind, .int .i64 x.margin.left.n, .int .i64 x.margin.top.kind, .int .i64 x.margin.top.n, .int .i64 x.margin.right.kind, .int .i64 x.margin.right.n, .int .i64 x.margin.bottom.kind, .int .i64 x.margin.bottom.n, .int .i64 x.margin.start.kind, .int .i64 x.margin.start.n, .int .i64 x.margin.stop.kind, .int .i64 x.margin.stop.n, .int .i64 x.inset.left.kind, .int .i64 x.inset.left.n, .int .i64 x.inset.top.kind, .int .i64 x.inset.top.n, .int .i64 x.inset.right.kind, .int .i64 x.inset.right.n, .int .i64 x.inset.bottom.kind, .int .i64 x.inset.bottom.n, .int .i64 x.inset.start.kind, .int .i64 x.inset.start.n, .int .i64 x.inset.stop.kind, .int .i64 x.inset.stop.n, .int .i64 x.pad.left, .int .i64 x.pad.top, .int .i64 x.pad.right, .int .i64 x.pad.bottom, .int .i64 x.border.left, .int .i64 x.border.top, .int .i64 x.border.right, .int .i64 x.border.bottom, .int .i64 x.rowGap, .int .i64 x.colGap]

end Go.Proofs.Ythffgbhphjkdeaa
namespace Go.Proofs.Ythffgbhphjkdeaa
open Go.RowKit
set_option linter.unusedVariables false
set_option linter.unusedSimpArgs false

def valOk (v : Val) : Bool := if v.kind = 0 ∨ v.kind = 3 then decide (v.n = 0) else if v.kind = 1 then inB v.n (-1048576) 1048576 else if v.kind = 2 then inB v.n (-1000) 1000 else false
def sizeOk (v : Val) : Bool := valOk v && decide (0 ≤ v.n)
def edgesOk (x : Edges) : Bool := inB x.left 0 1048576 && inB x.top 0 1048576 && inB x.right 0 1048576 && inB x.bottom 0 1048576
def sidesOk (x : Sides) : Bool := valOk x.left && valOk x.top && valOk x.right && valOk x.bottom && valOk x.start && valOk x.stop

set_option maxRecDepth 100000 in
set_option maxHeartbeats 4000000 in
theorem valueOk_any (v : Val) (w : World) : Calls Try.prog 141 #[.agg #[.int .i64 v.kind, .int .i64 v.n]] w fun e w' => e = .returned (.bool (valOk v)) ∧ Mod (fun _ => False) w w' := by
  refine calls_sx Try.func141 rfl rfl (fun a h1 h2 h3 => ((Fr.nil h1 h2).arg (h3 0 _ rfl))) ?_
  by_cases k0 : v.kind = 0
  · have hv : valOk v = decide (v.n = 0) := if_pos (.inl k0)
    repeat (first | refine qan ?_ | refine qaj ?_ | refine qaf ?_ | refine qad ?_ | refine SX.block ?_ | refine qaC ?_ | refine qaq rfl ?_ | (refine qau ?_; (refine qac (qaw 0 rfl rfl rfl) rfl ?_ ?_ ?_); rfl; rfl) | (refine qak ?_; (refine qac (qae rfl) rfl ?_ ?_ ?_); rfl; rfl) | (refine qal ?_; (refine qac (qag rfl) rfl ?_ ?_ ?_); rfl; rfl) | (refine l_eql ?_; (first | refine qac (qaQ rfl rfl (by omega)) rfl ?_ ?_ ?_ | refine qac (OpW.eql rfl rfl) rfl ?_ ?_ ?_); rfl; rfl) | (refine l_box ?_; refine qaG ?_ ?_ rfl rfl (fun g => ?_); rfl; rfl) | refine qaA ?_ | refine qax ?_ | refine qaH ?_)
    refine qaz rfl rfl (fun w' hl => ⟨ret_bool hv.symm, hl.mod⟩)
  · by_cases k3 : v.kind = 3
    · have hv : valOk v = decide (v.n = 0) := if_pos (.inr k3)
      repeat (first | refine qan ?_ | refine qaj ?_ | refine qaf ?_ | refine qad ?_ | refine SX.block ?_ | refine qaq rfl ?_ | refine qas rfl ?_ | (refine qau ?_; (refine qac (qaw 0 rfl rfl rfl) rfl ?_ ?_ ?_); rfl; rfl) | (refine qak ?_; (refine qac (qae rfl) rfl ?_ ?_ ?_); rfl; rfl) | (refine qal ?_; (refine qac (qag rfl) rfl ?_ ?_ ?_); rfl; rfl) | (refine l_eql ?_; (first | refine qac (qaQ rfl rfl (by omega)) rfl ?_ ?_ ?_ | refine qac (qaP rfl rfl (by omega)) rfl ?_ ?_ ?_ | refine qac (OpW.eql rfl rfl) rfl ?_ ?_ ?_); rfl; rfl) | (refine l_box ?_; refine qaG ?_ ?_ rfl rfl (fun g => ?_); rfl; rfl) | refine qaA ?_ | refine qax ?_ | refine qaH ?_)
      refine qaz rfl rfl (fun w' hl => ⟨ret_bool hv.symm, hl.mod⟩)
    · by_cases k1 : v.kind = 1
      · have hv : valOk v = inB v.n (-1048576) 1048576 := (if_neg (by omega)).trans (if_pos k1)
        repeat (first | refine qan ?_ | refine qaj ?_ | refine qaf ?_ | refine qad ?_ | refine SX.block ?_ | refine qaq rfl ?_ | refine qas rfl ?_ | (refine qat ?_; (refine qac (qaL rfl (fun w _ => in_any _ _ _ _)) rfl ?_ ?_ ?_); rfl; rfl) | (refine qau ?_; (refine qac (qaw 0 rfl rfl rfl) rfl ?_ ?_ ?_); rfl; rfl) | (refine qak ?_; (refine qac (qae rfl) rfl ?_ ?_ ?_); rfl; rfl) | (refine qal ?_; (refine qac (qag rfl) rfl ?_ ?_ ?_); rfl; rfl) | (refine l_eql ?_; (first | refine qac (qaQ rfl rfl (by omega)) rfl ?_ ?_ ?_ | refine qac (qaP rfl rfl (by omega)) rfl ?_ ?_ ?_); rfl; rfl) | (refine l_box ?_; refine qaG ?_ ?_ rfl rfl (fun g => ?_); rfl; rfl) | refine qaA ?_ | refine qax ?_ | refine qaH ?_)
        refine qaz rfl rfl (fun w' hl => ⟨ret_bool hv.symm, hl.mod⟩)
      · by_cases k2 : v.kind = 2
        · have hv : valOk v = inB v.n (-1000) 1000 := (if_neg (by omega)).trans ((if_neg k1).trans (if_pos k2))
          repeat (first | refine qan ?_ | refine qaj ?_ | refine qaf ?_ | refine qad ?_ | refine SX.block ?_ | refine qaq rfl ?_ | refine qas rfl ?_ | (refine qat ?_; (refine qac (qaL rfl (fun w _ => in_any _ _ _ _)) rfl ?_ ?_ ?_); rfl; rfl) | (refine qau ?_; (refine qac (qaw 0 rfl rfl rfl) rfl ?_ ?_ ?_); rfl; rfl) | (refine qak ?_; (refine qac (qae rfl) rfl ?_ ?_ ?_); rfl; rfl) | (refine qal ?_; (refine qac (qag rfl) rfl ?_ ?_ ?_); rfl; rfl) | (refine l_eql ?_; (first | refine qac (qaQ rfl rfl (by omega)) rfl ?_ ?_ ?_ | refine qac (qaP rfl rfl (by omega)) rfl ?_ ?_ ?_); rfl; rfl) | (refine l_box ?_; refine qaG ?_ ?_ rfl rfl (fun g => ?_); rfl; rfl) | refine qaA ?_ | refine qax ?_ | refine qaH ?_)
          refine qaz rfl rfl (fun w' hl => ⟨ret_bool hv.symm, hl.mod⟩)
        · have hv : valOk v = false := (if_neg (by omega)).trans ((if_neg k1).trans (if_neg k2))
          repeat (first | refine qan ?_ | refine qaj ?_ | refine qaf ?_ | refine qad ?_ | refine SX.block ?_ | refine qaC ?_ | refine qas rfl ?_ | (refine qau ?_; (refine qac (qaw 0 rfl rfl rfl) rfl ?_ ?_ ?_); rfl; rfl) | (refine qak ?_; (refine qac (qae rfl) rfl ?_ ?_ ?_); rfl; rfl) | (refine qal ?_; (refine qac (qag rfl) rfl ?_ ?_ ?_); rfl; rfl) | (refine l_eql ?_; (refine qac (qaP rfl rfl (by omega)) rfl ?_ ?_ ?_); rfl; rfl) | (refine l_box ?_; refine qaG ?_ ?_ rfl rfl (fun g => ?_); rfl; rfl) | refine qaA ?_ | refine qar ?_)
          refine qaz rfl rfl (fun w' hl => ⟨ret_bool hv.symm, hl.mod⟩)

set_option maxRecDepth 100000 in
set_option maxHeartbeats 4000000 in
theorem sizeOk_any (v : Val) (w : World) : Calls Try.prog 116 #[.agg #[.int .i64 v.kind, .int .i64 v.n]] w fun e w' => e = .returned (.bool (sizeOk v)) ∧ Mod (fun _ => False) w w' := by
  refine calls_sx Try.func116 rfl rfl (fun a h1 h2 h3 => ((Fr.nil h1 h2).arg (h3 0 _ rfl))) ?_
  cases q0 : valOk v
  · have hv : sizeOk v = false := by simp [sizeOk, q0]
    repeat (first | refine qan ?_ | refine qaj ?_ | refine qaf ?_ | refine qad ?_ | (refine qaS rfl rfl rfl ?_) | (refine qat ?_; (refine qac (qap rfl (fun w hl => valueOk_any v _)) rfl ?_ ?_ ?_); rfl; rfl) | (refine qau ?_; (refine qac (qam 0 rfl rfl rfl) rfl ?_ ?_ ?_); rfl; rfl) | (refine qao ?_; (refine qac (qai rfl) rfl ?_ ?_ ?_); rfl; rfl) | (refine qal ?_; (refine qac (qag rfl) rfl ?_ ?_ ?_); rfl; rfl) | (refine qaE ?_; (refine qac (qav rfl rfl rfl) rfl ?_ ?_ ?_); rfl; rfl) | (refine l_box ?_; refine qaG ?_ ?_ rfl rfl (fun g => ?_); rfl; rfl) | (rw [q0]) | refine qaA ?_)
    refine qaz rfl rfl (fun w' hl => ⟨ret_bool hv.symm, hl.mod⟩)
  · have hv : sizeOk v = decide (0 ≤ v.n) := by simp [sizeOk, q0]
    repeat (first | refine qan ?_ | refine qaj ?_ | refine qaf ?_ | refine qad ?_ | (refine qat ?_; (refine qac (qap rfl (fun w hl => valueOk_any v _)) rfl ?_ ?_ ?_); rfl; rfl) | (refine qau ?_; (first | refine qac (qaw 0 rfl rfl rfl) rfl ?_ ?_ ?_ | refine qac (qam 0 rfl rfl rfl) rfl ?_ ?_ ?_); rfl; rfl) | (refine qak ?_; (refine qac (qae rfl) rfl ?_ ?_ ?_); rfl; rfl) | (refine qao ?_; (refine qac (qai rfl) rfl ?_ ?_ ?_); rfl; rfl) | (refine qal ?_; (refine qac (qag rfl) rfl ?_ ?_ ?_); rfl; rfl) | (refine l_geq ?_; (refine qac (OpW.geq rfl rfl) rfl ?_ ?_ ?_); rfl; rfl) | (refine qaE ?_; (refine qac (qav rfl rfl rfl) rfl ?_ ?_ ?_); rfl; rfl) | (refine l_box ?_; refine qaG ?_ ?_ rfl rfl (fun g => ?_); rfl; rfl) | (rw [q0]) | refine qaA ?_)
    refine qaz rfl rfl (fun w' hl => ⟨ret_bool hv.symm, hl.mod⟩)

set_option maxRecDepth 100000 in
set_option maxHeartbeats 4000000 in
theorem edgesOk_any (x : Edges) (w : World) : Calls Try.prog 118 #[.agg #[.int .i64 x.left, .int .i64 x.top, .int .i64 x.right, .int .i64 x.bottom]] w fun e w' => e = .returned (.bool (edgesOk x)) ∧ Mod (fun _ => False) w w' := by
  refine calls_sx Try.func118 rfl rfl (fun a h1 h2 h3 => ((Fr.nil h1 h2).arg (h3 0 _ rfl))) ?_
  cases q0 : inB x.left 0 1048576
  · have hv : edgesOk x = false := by simp [edgesOk, q0]
    repeat (first | refine qan ?_ | refine qaj ?_ | refine qaf ?_ | refine qad ?_ | (refine qaS rfl rfl rfl ?_) | (refine qat ?_; (refine qac (qaL rfl (fun w _ => in_any _ _ _ _)) rfl ?_ ?_ ?_); rfl; rfl) | (refine qau ?_; (refine qac (qaw 0 rfl rfl rfl) rfl ?_ ?_ ?_); rfl; rfl) | (refine qak ?_; (refine qac (qae rfl) rfl ?_ ?_ ?_); rfl; rfl) | (refine qao ?_; (refine qac (qai rfl) rfl ?_ ?_ ?_); rfl; rfl) | (refine qal ?_; (refine qac (qag rfl) rfl ?_ ?_ ?_); rfl; rfl) | (refine qaE ?_; (refine qac (qav rfl rfl rfl) rfl ?_ ?_ ?_); rfl; rfl) | (refine l_box ?_; refine qaG ?_ ?_ rfl rfl (fun g => ?_); rfl; rfl) | (rw [q0]) | refine qaA ?_)
    refine qaz rfl rfl (fun w' hl => ⟨ret_bool hv.symm, hl.mod⟩)
  cases q1 : inB x.top 0 1048576
  · have hv : edgesOk x = false := by simp [edgesOk, q0, q1]
    repeat (first | refine qan ?_ | refine qaj ?_ | refine qaf ?_ | refine qad ?_ | (refine qaS rfl rfl rfl ?_) | (refine qat ?_; (refine qac (qaL rfl (fun w _ => in_any _ _ _ _)) rfl ?_ ?_ ?_); rfl; rfl) | (refine qau ?_; (refine qac (qaw 0 rfl rfl rfl) rfl ?_ ?_ ?_); rfl; rfl) | (refine qak ?_; (refine qac (qae rfl) rfl ?_ ?_ ?_); rfl; rfl) | (refine qao ?_; (refine qac (qai rfl) rfl ?_ ?_ ?_); rfl; rfl) | (refine qal ?_; (refine qac (qag rfl) rfl ?_ ?_ ?_); rfl; rfl) | (refine qaE ?_; (refine qac (qav rfl rfl rfl) rfl ?_ ?_ ?_); rfl; rfl) | (refine l_box ?_; refine qaG ?_ ?_ rfl rfl (fun g => ?_); rfl; rfl) | ((first | rw [q0] | rw [q1])) | refine qaA ?_)
    refine qaz rfl rfl (fun w' hl => ⟨ret_bool hv.symm, hl.mod⟩)
  cases q2 : inB x.right 0 1048576
  · have hv : edgesOk x = false := by simp [edgesOk, q0, q1, q2]
    repeat (first | refine qan ?_ | refine qaj ?_ | refine qaf ?_ | refine qad ?_ | (refine qaS rfl rfl rfl ?_) | (refine qat ?_; (refine qac (qaL rfl (fun w _ => in_any _ _ _ _)) rfl ?_ ?_ ?_); rfl; rfl) | (refine qau ?_; (refine qac (qaw 0 rfl rfl rfl) rfl ?_ ?_ ?_); rfl; rfl) | (refine qak ?_; (refine qac (qae rfl) rfl ?_ ?_ ?_); rfl; rfl) | (refine qao ?_; (refine qac (qai rfl) rfl ?_ ?_ ?_); rfl; rfl) | (refine qal ?_; (refine qac (qag rfl) rfl ?_ ?_ ?_); rfl; rfl) | (refine qaE ?_; (refine qac (qav rfl rfl rfl) rfl ?_ ?_ ?_); rfl; rfl) | (refine l_box ?_; refine qaG ?_ ?_ rfl rfl (fun g => ?_); rfl; rfl) | ((first | rw [q0] | rw [q1] | rw [q2])) | refine qaA ?_)
    refine qaz rfl rfl (fun w' hl => ⟨ret_bool hv.symm, hl.mod⟩)
  cases q3 : inB x.bottom 0 1048576
  · have hv : edgesOk x = false := by simp [edgesOk, q0, q1, q2, q3]
    repeat (first | refine qan ?_ | refine qaj ?_ | refine qaf ?_ | refine qad ?_ | (refine qat ?_; (refine qac (qaL rfl (fun w _ => in_any _ _ _ _)) rfl ?_ ?_ ?_); rfl; rfl) | (refine qau ?_; (refine qac (qaw 0 rfl rfl rfl) rfl ?_ ?_ ?_); rfl; rfl) | (refine qak ?_; (refine qac (qae rfl) rfl ?_ ?_ ?_); rfl; rfl) | (refine qao ?_; (refine qac (qai rfl) rfl ?_ ?_ ?_); rfl; rfl) | (refine qal ?_; (refine qac (qag rfl) rfl ?_ ?_ ?_); rfl; rfl) | (refine qaE ?_; (refine qac (qav rfl rfl rfl) rfl ?_ ?_ ?_); rfl; rfl) | (refine l_box ?_; refine qaG ?_ ?_ rfl rfl (fun g => ?_); rfl; rfl) | ((first | rw [q0] | rw [q1] | rw [q2] | rw [q3])) | refine qaA ?_)
    refine qaz rfl rfl (fun w' hl => ⟨ret_bool hv.symm, hl.mod⟩)
  have hv : edgesOk x = true := by simp [edgesOk, q0, q1, q2, q3]
  repeat (first | refine qan ?_ | refine qaj ?_ | refine qaf ?_ | refine qad ?_ | (refine qat ?_; (refine qac (qaL rfl (fun w _ => in_any _ _ _ _)) rfl ?_ ?_ ?_); rfl; rfl) | (refine qau ?_; (refine qac (qaw 0 rfl rfl rfl) rfl ?_ ?_ ?_); rfl; rfl) | (refine qak ?_; (refine qac (qae rfl) rfl ?_ ?_ ?_); rfl; rfl) | (refine qao ?_; (refine qac (qai rfl) rfl ?_ ?_ ?_); rfl; rfl) | (refine qal ?_; (refine qac (qag rfl) rfl ?_ ?_ ?_); rfl; rfl) | (refine qaE ?_; (refine qac (qav rfl rfl rfl) rfl ?_ ?_ ?_); rfl; rfl) | (refine l_box ?_; refine qaG ?_ ?_ rfl rfl (fun g => ?_); rfl; rfl) | ((first | rw [q0] | rw [q1] | rw [q2] | rw [q3])) | refine qaA ?_)
  refine qaz rfl rfl (fun w' hl => ⟨ret_bool hv.symm, hl.mod⟩)

set_option maxRecDepth 100000 in
set_option maxHeartbeats 4000000 in
theorem sidesOk_any (x : Sides) (w : World) : Calls Try.prog 117 #[.agg #[.int .i64 x.left.kind, .int .i64 x.left.n, .int .i64 x.top.kind, .int .i64 x.top.n, .int .i64 x.right.kind, .int .i64 x.right.n, .int .i64 x.bottom.kind, .int .i64 x.bottom.n, .int .i64 x.start.kind, .int .i64 x.start.n, .int .i64 x.stop.kind, .int .i64 x.stop.n]] w fun e w' => e = .returned (.bool (sidesOk x)) ∧ Mod (fun _ => False) w w' := by
  refine calls_sx Try.func117 rfl rfl (fun a h1 h2 h3 => ((Fr.nil h1 h2).arg (h3 0 _ rfl))) ?_
  cases q0 : valOk x.left
  · have hv : sidesOk x = false := by simp [sidesOk, q0]
    repeat (first | refine qan ?_ | refine qaj ?_ | refine qaf ?_ | refine qad ?_ | (refine qaS rfl rfl rfl ?_) | (refine qat ?_; (refine qac (qap rfl (fun w hl => valueOk_any _ _)) rfl ?_ ?_ ?_); rfl; rfl) | (refine qau ?_; (refine qac (qaI 0 rfl rfl rfl rfl) rfl ?_ ?_ ?_); rfl; rfl) | (refine qak ?_; (refine qac (qae rfl) rfl ?_ ?_ ?_); rfl; rfl) | (refine qao ?_; (refine qac (qai rfl) rfl ?_ ?_ ?_); rfl; rfl) | (refine qal ?_; (refine qac (qag rfl) rfl ?_ ?_ ?_); rfl; rfl) | (refine qaE ?_; (refine qac (qav rfl rfl rfl) rfl ?_ ?_ ?_); rfl; rfl) | (refine l_box ?_; refine qaG ?_ ?_ rfl rfl (fun g => ?_); rfl; rfl) | (rw [q0]) | refine qaA ?_)
    refine qaz rfl rfl (fun w' hl => ⟨ret_bool hv.symm, hl.mod⟩)
  cases q1 : valOk x.top
  · have hv : sidesOk x = false := by simp [sidesOk, q0, q1]
    repeat (first | refine qan ?_ | refine qaj ?_ | refine qaf ?_ | refine qad ?_ | (refine qaS rfl rfl rfl ?_) | (refine qat ?_; (refine qac (qap rfl (fun w hl => valueOk_any _ _)) rfl ?_ ?_ ?_); rfl; rfl) | (refine qau ?_; (refine qac (qaI 0 rfl rfl rfl rfl) rfl ?_ ?_ ?_); rfl; rfl) | (refine qak ?_; (refine qac (qae rfl) rfl ?_ ?_ ?_); rfl; rfl) | (refine qao ?_; (refine qac (qai rfl) rfl ?_ ?_ ?_); rfl; rfl) | (refine qal ?_; (refine qac (qag rfl) rfl ?_ ?_ ?_); rfl; rfl) | (refine qaE ?_; (refine qac (qav rfl rfl rfl) rfl ?_ ?_ ?_); rfl; rfl) | (refine l_box ?_; refine qaG ?_ ?_ rfl rfl (fun g => ?_); rfl; rfl) | ((first | rw [q0] | rw [q1])) | refine qaA ?_)
    refine qaz rfl rfl (fun w' hl => ⟨ret_bool hv.symm, hl.mod⟩)
  cases q2 : valOk x.right
  · have hv : sidesOk x = false := by simp [sidesOk, q0, q1, q2]
    repeat (first | refine qan ?_ | refine qaj ?_ | refine qaf ?_ | refine qad ?_ | (refine qaS rfl rfl rfl ?_) | (refine qat ?_; (refine qac (qap rfl (fun w hl => valueOk_any _ _)) rfl ?_ ?_ ?_); rfl; rfl) | (refine qau ?_; (refine qac (qaI 0 rfl rfl rfl rfl) rfl ?_ ?_ ?_); rfl; rfl) | (refine qak ?_; (refine qac (qae rfl) rfl ?_ ?_ ?_); rfl; rfl) | (refine qao ?_; (refine qac (qai rfl) rfl ?_ ?_ ?_); rfl; rfl) | (refine qal ?_; (refine qac (qag rfl) rfl ?_ ?_ ?_); rfl; rfl) | (refine qaE ?_; (refine qac (qav rfl rfl rfl) rfl ?_ ?_ ?_); rfl; rfl) | (refine l_box ?_; refine qaG ?_ ?_ rfl rfl (fun g => ?_); rfl; rfl) | ((first | rw [q0] | rw [q1] | rw [q2])) | refine qaA ?_)
    refine qaz rfl rfl (fun w' hl => ⟨ret_bool hv.symm, hl.mod⟩)
  cases q3 : valOk x.bottom
  · have hv : sidesOk x = false := by simp [sidesOk, q0, q1, q2, q3]
    repeat (first | refine qan ?_ | refine qaj ?_ | refine qaf ?_ | refine qad ?_ | (refine qaS rfl rfl rfl ?_) | (refine qat ?_; (refine qac (qap rfl (fun w hl => valueOk_any _ _)) rfl ?_ ?_ ?_); rfl; rfl) | (refine qau ?_; (refine qac (qaI 0 rfl rfl rfl rfl) rfl ?_ ?_ ?_); rfl; rfl) | (refine qak ?_; (refine qac (qae rfl) rfl ?_ ?_ ?_); rfl; rfl) | (refine qao ?_; (refine qac (qai rfl) rfl ?_ ?_ ?_); rfl; rfl) | (refine qal ?_; (refine qac (qag rfl) rfl ?_ ?_ ?_); rfl; rfl) | (refine qaE ?_; (refine qac (qav rfl rfl rfl) rfl ?_ ?_ ?_); rfl; rfl) | (refine l_box ?_; refine qaG ?_ ?_ rfl rfl (fun g => ?_); rfl; rfl) | ((first | rw [q0] | rw [q1] | rw [q2] | rw [q3])) | refine qaA ?_)
    refine qaz rfl rfl (fun w' hl => ⟨ret_bool hv.symm, hl.mod⟩)
  cases q4 : valOk x.start
  · have hv : sidesOk x = false := by simp [sidesOk, q0, q1, q2, q3, q4]
    repeat (first | refine qan ?_ | refine qaj ?_ | refine qaf ?_ | refine qad ?_ | (refine qaS rfl rfl rfl ?_) | (refine qat ?_; (refine qac (qap rfl (fun w hl => valueOk_any _ _)) rfl ?_ ?_ ?_); rfl; rfl) | (refine qau ?_; (refine qac (qaI 0 rfl rfl rfl rfl) rfl ?_ ?_ ?_); rfl; rfl) | (refine qak ?_; (refine qac (qae rfl) rfl ?_ ?_ ?_); rfl; rfl) | (refine qao ?_; (refine qac (qai rfl) rfl ?_ ?_ ?_); rfl; rfl) | (refine qal ?_; (refine qac (qag rfl) rfl ?_ ?_ ?_); rfl; rfl) | (refine qaE ?_; (refine qac (qav rfl rfl rfl) rfl ?_ ?_ ?_); rfl; rfl) | (refine l_box ?_; refine qaG ?_ ?_ rfl rfl (fun g => ?_); rfl; rfl) | ((first | rw [q0] | rw [q1] | rw [q2] | rw [q3] | rw [q4])) | refine qaA ?_)
    refine qaz rfl rfl (fun w' hl => ⟨ret_bool hv.symm, hl.mod⟩)
  cases q5 : valOk x.stop
  · have hv : sidesOk x = false := by simp [sidesOk, q0, q1, q2, q3, q4, q5]
    repeat (first | refine qan ?_ | refine qaj ?_ | refine qaf ?_ | refine qad ?_ | (refine qat ?_; (refine qac (qap rfl (fun w hl => valueOk_any _ _)) rfl ?_ ?_ ?_); rfl; rfl) | (refine qau ?_; (refine qac (qaI 0 rfl rfl rfl rfl) rfl ?_ ?_ ?_); rfl; rfl) | (refine qak ?_; (refine qac (qae rfl) rfl ?_ ?_ ?_); rfl; rfl) | (refine qao ?_; (refine qac (qai rfl) rfl ?_ ?_ ?_); rfl; rfl) | (refine qal ?_; (refine qac (qag rfl) rfl ?_ ?_ ?_); rfl; rfl) | (refine qaE ?_; (refine qac (qav rfl rfl rfl) rfl ?_ ?_ ?_); rfl; rfl) | (refine l_box ?_; refine qaG ?_ ?_ rfl rfl (fun g => ?_); rfl; rfl) | ((first | rw [q0] | rw [q1] | rw [q2] | rw [q3] | rw [q4] | rw [q5])) | refine qaA ?_)
    refine qaz rfl rfl (fun w' hl => ⟨ret_bool hv.symm, hl.mod⟩)
  have hv : sidesOk x = true := by simp [sidesOk, q0, q1, q2, q3, q4, q5]
  repeat (first | refine qan ?_ | refine qaj ?_ | refine qaf ?_ | refine qad ?_ | (refine qat ?_; (refine qac (qap rfl (fun w hl => valueOk_any _ _)) rfl ?_ ?_ ?_); rfl; rfl) | (refine qau ?_; (refine qac (qaI 0 rfl rfl rfl rfl) rfl ?_ ?_ ?_); rfl; rfl) | (refine qak ?_; (refine qac (qae rfl) rfl ?_ ?_ ?_); rfl; rfl) | (refine qao ?_; (refine qac (qai rfl) rfl ?_ ?_ ?_); rfl; rfl) | (refine qal ?_; (refine qac (qag rfl) rfl ?_ ?_ ?_); rfl; rfl) | (refine qaE ?_; (refine qac (qav rfl rfl rfl) rfl ?_ ?_ ?_); rfl; rfl) | (refine l_box ?_; refine qaG ?_ ?_ rfl rfl (fun g => ?_); rfl; rfl) | ((first | rw [q0] | rw [q1] | rw [q2] | rw [q3] | rw [q4] | rw [q5])) | refine qaA ?_)
  refine qaz rfl rfl (fun w' hl => ⟨ret_bool hv.symm, hl.mod⟩)

set_option maxRecDepth 100000 in
set_option maxHeartbeats 4000000 in
theorem svalueOk_any (v : Val) (w : World) : Calls Try.prog 142 #[.agg #[.int .i64 v.kind, .int .i64 v.n]] w fun e w' => e = .returned (.bool (valOk v)) ∧ Mod (fun _ => False) w w' := by
  refine calls_sx Try.func142 rfl rfl (fun a h1 h2 h3 => ((Fr.nil h1 h2).arg (h3 0 _ rfl))) ?_
  by_cases k0 : v.kind = 0
  · have hv : valOk v = decide (v.n = 0) := if_pos (.inl k0)
    repeat (first | refine qan ?_ | refine qaj ?_ | refine qaf ?_ | refine qad ?_ | refine SX.block ?_ | refine qaC ?_ | refine qaq rfl ?_ | (refine qau ?_; (refine qac (qaw 0 rfl rfl rfl) rfl ?_ ?_ ?_); rfl; rfl) | (refine qak ?_; (refine qac (qae rfl) rfl ?_ ?_ ?_); rfl; rfl) | (refine qal ?_; (refine qac (qag rfl) rfl ?_ ?_ ?_); rfl; rfl) | (refine l_eql ?_; (first | refine qac (qaQ rfl rfl (by omega)) rfl ?_ ?_ ?_ | refine qac (OpW.eql rfl rfl) rfl ?_ ?_ ?_); rfl; rfl) | (refine l_box ?_; refine qaG ?_ ?_ rfl rfl (fun g => ?_); rfl; rfl) | refine qaA ?_ | refine qax ?_ | refine qaH ?_)
    refine qaz rfl rfl (fun w' hl => ⟨ret_bool hv.symm, hl.mod⟩)
  · by_cases k3 : v.kind = 3
    · have hv : valOk v = decide (v.n = 0) := if_pos (.inr k3)
      repeat (first | refine qan ?_ | refine qaj ?_ | refine qaf ?_ | refine qad ?_ | refine SX.block ?_ | refine qaq rfl ?_ | refine qas rfl ?_ | (refine qau ?_; (refine qac (qaw 0 rfl rfl rfl) rfl ?_ ?_ ?_); rfl; rfl) | (refine qak ?_; (refine qac (qae rfl) rfl ?_ ?_ ?_); rfl; rfl) | (refine qal ?_; (refine qac (qag rfl) rfl ?_ ?_ ?_); rfl; rfl) | (refine l_eql ?_; (first | refine qac (qaQ rfl rfl (by omega)) rfl ?_ ?_ ?_ | refine qac (qaP rfl rfl (by omega)) rfl ?_ ?_ ?_ | refine qac (OpW.eql rfl rfl) rfl ?_ ?_ ?_); rfl; rfl) | (refine l_box ?_; refine qaG ?_ ?_ rfl rfl (fun g => ?_); rfl; rfl) | refine qaA ?_ | refine qax ?_ | refine qaH ?_)
      refine qaz rfl rfl (fun w' hl => ⟨ret_bool hv.symm, hl.mod⟩)
    · by_cases k1 : v.kind = 1
      · have hv : valOk v = inB v.n (-1048576) 1048576 := (if_neg (by omega)).trans (if_pos k1)
        repeat (first | refine qan ?_ | refine qaj ?_ | refine qaf ?_ | refine qad ?_ | refine SX.block ?_ | refine qaq rfl ?_ | refine qas rfl ?_ | (refine qat ?_; (refine qac (qaL rfl (fun w _ => l01In_any _ _ _ _)) rfl ?_ ?_ ?_); rfl; rfl) | (refine qau ?_; (refine qac (qaw 0 rfl rfl rfl) rfl ?_ ?_ ?_); rfl; rfl) | (refine qak ?_; (refine qac (qae rfl) rfl ?_ ?_ ?_); rfl; rfl) | (refine qal ?_; (refine qac (qag rfl) rfl ?_ ?_ ?_); rfl; rfl) | (refine l_eql ?_; (first | refine qac (qaQ rfl rfl (by omega)) rfl ?_ ?_ ?_ | refine qac (qaP rfl rfl (by omega)) rfl ?_ ?_ ?_); rfl; rfl) | (refine l_box ?_; refine qaG ?_ ?_ rfl rfl (fun g => ?_); rfl; rfl) | refine qaA ?_ | refine qax ?_ | refine qaH ?_)
        refine qaz rfl rfl (fun w' hl => ⟨ret_bool hv.symm, hl.mod⟩)
      · by_cases k2 : v.kind = 2
        · have hv : valOk v = inB v.n (-1000) 1000 := (if_neg (by omega)).trans ((if_neg k1).trans (if_pos k2))
          repeat (first | refine qan ?_ | refine qaj ?_ | refine qaf ?_ | refine qad ?_ | refine SX.block ?_ | refine qaq rfl ?_ | refine qas rfl ?_ | (refine qat ?_; (refine qac (qaL rfl (fun w _ => l01In_any _ _ _ _)) rfl ?_ ?_ ?_); rfl; rfl) | (refine qau ?_; (refine qac (qaw 0 rfl rfl rfl) rfl ?_ ?_ ?_); rfl; rfl) | (refine qak ?_; (refine qac (qae rfl) rfl ?_ ?_ ?_); rfl; rfl) | (refine qal ?_; (refine qac (qag rfl) rfl ?_ ?_ ?_); rfl; rfl) | (refine l_eql ?_; (first | refine qac (qaQ rfl rfl (by omega)) rfl ?_ ?_ ?_ | refine qac (qaP rfl rfl (by omega)) rfl ?_ ?_ ?_); rfl; rfl) | (refine l_box ?_; refine qaG ?_ ?_ rfl rfl (fun g => ?_); rfl; rfl) | refine qaA ?_ | refine qax ?_ | refine qaH ?_)
          refine qaz rfl rfl (fun w' hl => ⟨ret_bool hv.symm, hl.mod⟩)
        · have hv : valOk v = false := (if_neg (by omega)).trans ((if_neg k1).trans (if_neg k2))
          repeat (first | refine qan ?_ | refine qaj ?_ | refine qaf ?_ | refine qad ?_ | refine SX.block ?_ | refine qaC ?_ | refine qas rfl ?_ | (refine qau ?_; (refine qac (qaw 0 rfl rfl rfl) rfl ?_ ?_ ?_); rfl; rfl) | (refine qak ?_; (refine qac (qae rfl) rfl ?_ ?_ ?_); rfl; rfl) | (refine qal ?_; (refine qac (qag rfl) rfl ?_ ?_ ?_); rfl; rfl) | (refine l_eql ?_; (refine qac (qaP rfl rfl (by omega)) rfl ?_ ?_ ?_); rfl; rfl) | (refine l_box ?_; refine qaG ?_ ?_ rfl rfl (fun g => ?_); rfl; rfl) | refine qaA ?_ | refine qar ?_)
          refine qaz rfl rfl (fun w' hl => ⟨ret_bool hv.symm, hl.mod⟩)

set_option maxRecDepth 100000 in
set_option maxHeartbeats 4000000 in
theorem ssizeOk_any (v : Val) (w : World) : Calls Try.prog 119 #[.agg #[.int .i64 v.kind, .int .i64 v.n]] w fun e w' => e = .returned (.bool (sizeOk v)) ∧ Mod (fun _ => False) w w' := by
  refine calls_sx Try.func119 rfl rfl (fun a h1 h2 h3 => ((Fr.nil h1 h2).arg (h3 0 _ rfl))) ?_
  cases q0 : valOk v
  · have hv : sizeOk v = false := by simp [sizeOk, q0]
    repeat (first | refine qan ?_ | refine qaj ?_ | refine qaf ?_ | refine qad ?_ | (refine qaS rfl rfl rfl ?_) | (refine qat ?_; (refine qac (qap rfl (fun w hl => svalueOk_any v _)) rfl ?_ ?_ ?_); rfl; rfl) | (refine qau ?_; (refine qac (qam 0 rfl rfl rfl) rfl ?_ ?_ ?_); rfl; rfl) | (refine qao ?_; (refine qac (qai rfl) rfl ?_ ?_ ?_); rfl; rfl) | (refine qal ?_; (refine qac (qag rfl) rfl ?_ ?_ ?_); rfl; rfl) | (refine qaE ?_; (refine qac (qav rfl rfl rfl) rfl ?_ ?_ ?_); rfl; rfl) | (refine l_box ?_; refine qaG ?_ ?_ rfl rfl (fun g => ?_); rfl; rfl) | (rw [q0]) | refine qaA ?_)
    refine qaz rfl rfl (fun w' hl => ⟨ret_bool hv.symm, hl.mod⟩)
  · have hv : sizeOk v = decide (0 ≤ v.n) := by simp [sizeOk, q0]
    repeat (first | refine qan ?_ | refine qaj ?_ | refine qaf ?_ | refine qad ?_ | (refine qat ?_; (refine qac (qap rfl (fun w hl => svalueOk_any v _)) rfl ?_ ?_ ?_); rfl; rfl) | (refine qau ?_; (first | refine qac (qaw 0 rfl rfl rfl) rfl ?_ ?_ ?_ | refine qac (qam 0 rfl rfl rfl) rfl ?_ ?_ ?_); rfl; rfl) | (refine qak ?_; (refine qac (qae rfl) rfl ?_ ?_ ?_); rfl; rfl) | (refine qao ?_; (refine qac (qai rfl) rfl ?_ ?_ ?_); rfl; rfl) | (refine qal ?_; (refine qac (qag rfl) rfl ?_ ?_ ?_); rfl; rfl) | (refine l_geq ?_; (refine qac (OpW.geq rfl rfl) rfl ?_ ?_ ?_); rfl; rfl) | (refine qaE ?_; (refine qac (qav rfl rfl rfl) rfl ?_ ?_ ?_); rfl; rfl) | (refine l_box ?_; refine qaG ?_ ?_ rfl rfl (fun g => ?_); rfl; rfl) | (rw [q0]) | refine qaA ?_)
    refine qaz rfl rfl (fun w' hl => ⟨ret_bool hv.symm, hl.mod⟩)

set_option maxRecDepth 100000 in
set_option maxHeartbeats 4000000 in
theorem sedgesOk_any (x : Edges) (w : World) : Calls Try.prog 121 #[.agg #[.int .i64 x.left, .int .i64 x.top, .int .i64 x.right, .int .i64 x.bottom]] w fun e w' => e = .returned (.bool (edgesOk x)) ∧ Mod (fun _ => False) w w' := by
  refine calls_sx Try.func121 rfl rfl (fun a h1 h2 h3 => ((Fr.nil h1 h2).arg (h3 0 _ rfl))) ?_
  cases q0 : inB x.left 0 1048576
  · have hv : edgesOk x = false := by simp [edgesOk, q0]
    repeat (first | refine qan ?_ | refine qaj ?_ | refine qaf ?_ | refine qad ?_ | (refine qaS rfl rfl rfl ?_) | (refine qat ?_; (refine qac (qaL rfl (fun w _ => l01In_any _ _ _ _)) rfl ?_ ?_ ?_); rfl; rfl) | (refine qau ?_; (refine qac (qaw 0 rfl rfl rfl) rfl ?_ ?_ ?_); rfl; rfl) | (refine qak ?_; (refine qac (qae rfl) rfl ?_ ?_ ?_); rfl; rfl) | (refine qao ?_; (refine qac (qai rfl) rfl ?_ ?_ ?_); rfl; rfl) | (refine qal ?_; (refine qac (qag rfl) rfl ?_ ?_ ?_); rfl; rfl) | (refine qaE ?_; (refine qac (qav rfl rfl rfl) rfl ?_ ?_ ?_); rfl; rfl) | (refine l_box ?_; refine qaG ?_ ?_ rfl rfl (fun g => ?_); rfl; rfl) | (rw [q0]) | refine qaA ?_)
    refine qaz rfl rfl (fun w' hl => ⟨ret_bool hv.symm, hl.mod⟩)
  cases q1 : inB x.top 0 1048576
  · have hv : edgesOk x = false := by simp [edgesOk, q0, q1]
    repeat (first | refine qan ?_ | refine qaj ?_ | refine qaf ?_ | refine qad ?_ | (refine qaS rfl rfl rfl ?_) | (refine qat ?_; (refine qac (qaL rfl (fun w _ => l01In_any _ _ _ _)) rfl ?_ ?_ ?_); rfl; rfl) | (refine qau ?_; (refine qac (qaw 0 rfl rfl rfl) rfl ?_ ?_ ?_); rfl; rfl) | (refine qak ?_; (refine qac (qae rfl) rfl ?_ ?_ ?_); rfl; rfl) | (refine qao ?_; (refine qac (qai rfl) rfl ?_ ?_ ?_); rfl; rfl) | (refine qal ?_; (refine qac (qag rfl) rfl ?_ ?_ ?_); rfl; rfl) | (refine qaE ?_; (refine qac (qav rfl rfl rfl) rfl ?_ ?_ ?_); rfl; rfl) | (refine l_box ?_; refine qaG ?_ ?_ rfl rfl (fun g => ?_); rfl; rfl) | ((first | rw [q0] | rw [q1])) | refine qaA ?_)
    refine qaz rfl rfl (fun w' hl => ⟨ret_bool hv.symm, hl.mod⟩)
  cases q2 : inB x.right 0 1048576
  · have hv : edgesOk x = false := by simp [edgesOk, q0, q1, q2]
    repeat (first | refine qan ?_ | refine qaj ?_ | refine qaf ?_ | refine qad ?_ | (refine qaS rfl rfl rfl ?_) | (refine qat ?_; (refine qac (qaL rfl (fun w _ => l01In_any _ _ _ _)) rfl ?_ ?_ ?_); rfl; rfl) | (refine qau ?_; (refine qac (qaw 0 rfl rfl rfl) rfl ?_ ?_ ?_); rfl; rfl) | (refine qak ?_; (refine qac (qae rfl) rfl ?_ ?_ ?_); rfl; rfl) | (refine qao ?_; (refine qac (qai rfl) rfl ?_ ?_ ?_); rfl; rfl) | (refine qal ?_; (refine qac (qag rfl) rfl ?_ ?_ ?_); rfl; rfl) | (refine qaE ?_; (refine qac (qav rfl rfl rfl) rfl ?_ ?_ ?_); rfl; rfl) | (refine l_box ?_; refine qaG ?_ ?_ rfl rfl (fun g => ?_); rfl; rfl) | ((first | rw [q0] | rw [q1] | rw [q2])) | refine qaA ?_)
    refine qaz rfl rfl (fun w' hl => ⟨ret_bool hv.symm, hl.mod⟩)
  cases q3 : inB x.bottom 0 1048576
  · have hv : edgesOk x = false := by simp [edgesOk, q0, q1, q2, q3]
    repeat (first | refine qan ?_ | refine qaj ?_ | refine qaf ?_ | refine qad ?_ | (refine qat ?_; (refine qac (qaL rfl (fun w _ => l01In_any _ _ _ _)) rfl ?_ ?_ ?_); rfl; rfl) | (refine qau ?_; (refine qac (qaw 0 rfl rfl rfl) rfl ?_ ?_ ?_); rfl; rfl) | (refine qak ?_; (refine qac (qae rfl) rfl ?_ ?_ ?_); rfl; rfl) | (refine qao ?_; (refine qac (qai rfl) rfl ?_ ?_ ?_); rfl; rfl) | (refine qal ?_; (refine qac (qag rfl) rfl ?_ ?_ ?_); rfl; rfl) | (refine qaE ?_; (refine qac (qav rfl rfl rfl) rfl ?_ ?_ ?_); rfl; rfl) | (refine l_box ?_; refine qaG ?_ ?_ rfl rfl (fun g => ?_); rfl; rfl) | ((first | rw [q0] | rw [q1] | rw [q2] | rw [q3])) | refine qaA ?_)
    refine qaz rfl rfl (fun w' hl => ⟨ret_bool hv.symm, hl.mod⟩)
  have hv : edgesOk x = true := by simp [edgesOk, q0, q1, q2, q3]
  repeat (first | refine qan ?_ | refine qaj ?_ | refine qaf ?_ | refine qad ?_ | (refine qat ?_; (refine qac (qaL rfl (fun w _ => l01In_any _ _ _ _)) rfl ?_ ?_ ?_); rfl; rfl) | (refine qau ?_; (refine qac (qaw 0 rfl rfl rfl) rfl ?_ ?_ ?_); rfl; rfl) | (refine qak ?_; (refine qac (qae rfl) rfl ?_ ?_ ?_); rfl; rfl) | (refine qao ?_; (refine qac (qai rfl) rfl ?_ ?_ ?_); rfl; rfl) | (refine qal ?_; (refine qac (qag rfl) rfl ?_ ?_ ?_); rfl; rfl) | (refine qaE ?_; (refine qac (qav rfl rfl rfl) rfl ?_ ?_ ?_); rfl; rfl) | (refine l_box ?_; refine qaG ?_ ?_ rfl rfl (fun g => ?_); rfl; rfl) | ((first | rw [q0] | rw [q1] | rw [q2] | rw [q3])) | refine qaA ?_)
  refine qaz rfl rfl (fun w' hl => ⟨ret_bool hv.symm, hl.mod⟩)

set_option maxRecDepth 100000 in
set_option maxHeartbeats 4000000 in
theorem ssidesOk_any (x : Sides) (w : World) : Calls Try.prog 120 #[.agg #[.int .i64 x.left.kind, .int .i64 x.left.n, .int .i64 x.top.kind, .int .i64 x.top.n, .int .i64 x.right.kind, .int .i64 x.right.n, .int .i64 x.bottom.kind, .int .i64 x.bottom.n, .int .i64 x.start.kind, .int .i64 x.start.n, .int .i64 x.stop.kind, .int .i64 x.stop.n]] w fun e w' => e = .returned (.bool (sidesOk x)) ∧ Mod (fun _ => False) w w' := by
  refine calls_sx Try.func120 rfl rfl (fun a h1 h2 h3 => ((Fr.nil h1 h2).arg (h3 0 _ rfl))) ?_
  cases q0 : valOk x.left
  · have hv : sidesOk x = false := by simp [sidesOk, q0]
    repeat (first | refine qan ?_ | refine qaj ?_ | refine qaf ?_ | refine qad ?_ | (refine qaS rfl rfl rfl ?_) | (refine qat ?_; (refine qac (qap rfl (fun w hl => svalueOk_any _ _)) rfl ?_ ?_ ?_); rfl; rfl) | (refine qau ?_; (refine qac (qaI 0 rfl rfl rfl rfl) rfl ?_ ?_ ?_); rfl; rfl) | (refine qak ?_; (refine qac (qae rfl) rfl ?_ ?_ ?_); rfl; rfl) | (refine qao ?_; (refine qac (qai rfl) rfl ?_ ?_ ?_); rfl; rfl) | (refine qal ?_; (refine qac (qag rfl) rfl ?_ ?_ ?_); rfl; rfl) | (refine qaE ?_; (refine qac (qav rfl rfl rfl) rfl ?_ ?_ ?_); rfl; rfl) | (refine l_box ?_; refine qaG ?_ ?_ rfl rfl (fun g => ?_); rfl; rfl) | (rw [q0]) | refine qaA ?_)
    refine qaz rfl rfl (fun w' hl => ⟨ret_bool hv.symm, hl.mod⟩)
  cases q1 : valOk x.top
  · have hv : sidesOk x = false := by simp [sidesOk, q0, q1]
    repeat (first | refine qan ?_ | refine qaj ?_ | refine qaf ?_ | refine qad ?_ | (refine qaS rfl rfl rfl ?_) | (refine qat ?_; (refine qac (qap rfl (fun w hl => svalueOk_any _ _)) rfl ?_ ?_ ?_); rfl; rfl) | (refine qau ?_; (refine qac (qaI 0 rfl rfl rfl rfl) rfl ?_ ?_ ?_); rfl; rfl) | (refine qak ?_; (refine qac (qae rfl) rfl ?_ ?_ ?_); rfl; rfl) | (refine qao ?_; (refine qac (qai rfl) rfl ?_ ?_ ?_); rfl; rfl) | (refine qal ?_; (refine qac (qag rfl) rfl ?_ ?_ ?_); rfl; rfl) | (refine qaE ?_; (refine qac (qav rfl rfl rfl) rfl ?_ ?_ ?_); rfl; rfl) | (refine l_box ?_; refine qaG ?_ ?_ rfl rfl (fun g => ?_); rfl; rfl) | ((first | rw [q0] | rw [q1])) | refine qaA ?_)
    refine qaz rfl rfl (fun w' hl => ⟨ret_bool hv.symm, hl.mod⟩)
  cases q2 : valOk x.right
  · have hv : sidesOk x = false := by simp [sidesOk, q0, q1, q2]
    repeat (first | refine qan ?_ | refine qaj ?_ | refine qaf ?_ | refine qad ?_ | (refine qaS rfl rfl rfl ?_) | (refine qat ?_; (refine qac (qap rfl (fun w hl => svalueOk_any _ _)) rfl ?_ ?_ ?_); rfl; rfl) | (refine qau ?_; (refine qac (qaI 0 rfl rfl rfl rfl) rfl ?_ ?_ ?_); rfl; rfl) | (refine qak ?_; (refine qac (qae rfl) rfl ?_ ?_ ?_); rfl; rfl) | (refine qao ?_; (refine qac (qai rfl) rfl ?_ ?_ ?_); rfl; rfl) | (refine qal ?_; (refine qac (qag rfl) rfl ?_ ?_ ?_); rfl; rfl) | (refine qaE ?_; (refine qac (qav rfl rfl rfl) rfl ?_ ?_ ?_); rfl; rfl) | (refine l_box ?_; refine qaG ?_ ?_ rfl rfl (fun g => ?_); rfl; rfl) | ((first | rw [q0] | rw [q1] | rw [q2])) | refine qaA ?_)
    refine qaz rfl rfl (fun w' hl => ⟨ret_bool hv.symm, hl.mod⟩)
  cases q3 : valOk x.bottom
  · have hv : sidesOk x = false := by simp [sidesOk, q0, q1, q2, q3]
    repeat (first | refine qan ?_ | refine qaj ?_ | refine qaf ?_ | refine qad ?_ | (refine qaS rfl rfl rfl ?_) | (refine qat ?_; (refine qac (qap rfl (fun w hl => svalueOk_any _ _)) rfl ?_ ?_ ?_); rfl; rfl) | (refine qau ?_; (refine qac (qaI 0 rfl rfl rfl rfl) rfl ?_ ?_ ?_); rfl; rfl) | (refine qak ?_; (refine qac (qae rfl) rfl ?_ ?_ ?_); rfl; rfl) | (refine qao ?_; (refine qac (qai rfl) rfl ?_ ?_ ?_); rfl; rfl) | (refine qal ?_; (refine qac (qag rfl) rfl ?_ ?_ ?_); rfl; rfl) | (refine qaE ?_; (refine qac (qav rfl rfl rfl) rfl ?_ ?_ ?_); rfl; rfl) | (refine l_box ?_; refine qaG ?_ ?_ rfl rfl (fun g => ?_); rfl; rfl) | ((first | rw [q0] | rw [q1] | rw [q2] | rw [q3])) | refine qaA ?_)
    refine qaz rfl rfl (fun w' hl => ⟨ret_bool hv.symm, hl.mod⟩)
  cases q4 : valOk x.start
  · have hv : sidesOk x = false := by simp [sidesOk, q0, q1, q2, q3, q4]
    repeat (first | refine qan ?_ | refine qaj ?_ | refine qaf ?_ | refine qad ?_ | (refine qaS rfl rfl rfl ?_) | (refine qat ?_; (refine qac (qap rfl (fun w hl => svalueOk_any _ _)) rfl ?_ ?_ ?_); rfl; rfl) | (refine qau ?_; (refine qac (qaI 0 rfl rfl rfl rfl) rfl ?_ ?_ ?_); rfl; rfl) | (refine qak ?_; (refine qac (qae rfl) rfl ?_ ?_ ?_); rfl; rfl) | (refine qao ?_; (refine qac (qai rfl) rfl ?_ ?_ ?_); rfl; rfl) | (refine qal ?_; (refine qac (qag rfl) rfl ?_ ?_ ?_); rfl; rfl) | (refine qaE ?_; (refine qac (qav rfl rfl rfl) rfl ?_ ?_ ?_); rfl; rfl) | (refine l_box ?_; refine qaG ?_ ?_ rfl rfl (fun g => ?_); rfl; rfl) | ((first | rw [q0] | rw [q1] | rw [q2] | rw [q3] | rw [q4])) | refine qaA ?_)
    refine qaz rfl rfl (fun w' hl => ⟨ret_bool hv.symm, hl.mod⟩)
  cases q5 : valOk x.stop
  · have hv : sidesOk x = false := by simp [sidesOk, q0, q1, q2, q3, q4, q5]
    repeat (first | refine qan ?_ | refine qaj ?_ | refine qaf ?_ | refine qad ?_ | (refine qat ?_; (refine qac (qap rfl (fun w hl => svalueOk_any _ _)) rfl ?_ ?_ ?_); rfl; rfl) | (refine qau ?_; (refine qac (qaI 0 rfl rfl rfl rfl) rfl ?_ ?_ ?_); rfl; rfl) | (refine qak ?_; (refine qac (qae rfl) rfl ?_ ?_ ?_); rfl; rfl) | (refine qao ?_; (refine qac (qai rfl) rfl ?_ ?_ ?_); rfl; rfl) | (refine qal ?_; (refine qac (qag rfl) rfl ?_ ?_ ?_); rfl; rfl) | (refine qaE ?_; (refine qac (qav rfl rfl rfl) rfl ?_ ?_ ?_); rfl; rfl) | (refine l_box ?_; refine qaG ?_ ?_ rfl rfl (fun g => ?_); rfl; rfl) | ((first | rw [q0] | rw [q1] | rw [q2] | rw [q3] | rw [q4] | rw [q5])) | refine qaA ?_)
    refine qaz rfl rfl (fun w' hl => ⟨ret_bool hv.symm, hl.mod⟩)
  have hv : sidesOk x = true := by simp [sidesOk, q0, q1, q2, q3, q4, q5]
  repeat (first | refine qan ?_ | refine qaj ?_ | refine qaf ?_ | refine qad ?_ | (refine qat ?_; (refine qac (qap rfl (fun w hl => svalueOk_any _ _)) rfl ?_ ?_ ?_); rfl; rfl) | (refine qau ?_; (refine qac (qaI 0 rfl rfl rfl rfl) rfl ?_ ?_ ?_); rfl; rfl) | (refine qak ?_; (refine qac (qae rfl) rfl ?_ ?_ ?_); rfl; rfl) | (refine qao ?_; (refine qac (qai rfl) rfl ?_ ?_ ?_); rfl; rfl) | (refine qal ?_; (refine qac (qag rfl) rfl ?_ ?_ ?_); rfl; rfl) | (refine qaE ?_; (refine qac (qav rfl rfl rfl) rfl ?_ ?_ ?_); rfl; rfl) | (refine l_box ?_; refine qaG ?_ ?_ rfl rfl (fun g => ?_); rfl; rfl) | ((first | rw [q0] | rw [q1] | rw [q2] | rw [q3] | rw [q4] | rw [q5])) | refine qaA ?_)
  refine qaz rfl rfl (fun w' hl => ⟨ret_bool hv.symm, hl.mod⟩)


end Go.Proofs.Ythffgbhphjkdeaa
namespace Go.Proofs.Ythffgbhphjkdeaa
open Go.RowKit

theorem Style.len (s : Style) : s.cells.length = 60 := rfl
theorem Style.ones (s : Style) : s.cells.toArray.all (·.oneCell') = true := by simp [Style.cells, Value.oneCell']
@[go_sem] theorem Style.set54 (s : Style) (v : Int) : s.cells.set 54 (.int .i64 v) = Style.cells { s with border := { s.border with left := v } } := rfl
@[go_sem] theorem Style.set55 (s : Style) (v : Int) : s.cells.set 55 (.int .i64 v) = Style.cells { s with border := { s.border with top := v } } := rfl
@[go_sem] theorem Style.set56 (s : Style) (v : Int) : s.cells.set 56 (.int .i64 v) = Style.cells { s with border := { s.border with right := v } } := rfl
@[go_sem] theorem Style.set57 (s : Style) (v : Int) : s.cells.set 57 (.int .i64 v) = Style.cells { s with border := { s.border with bottom := v } } := rfl
@[go_sem] theorem Style.set58 (s : Style) (v : Int) : s.cells.set 58 (.int .i64 v) = Style.cells { s with rowGap := v } := rfl
@[go_sem] theorem Style.set59 (s : Style) (v : Int) : s.cells.set 59 (.int .i64 v) = Style.cells { s with colGap := v } := rfl
@[go_sem ↓] theorem exec_load_lStyle (ρ : Operand → Value) (d : Option Tmp) (x : Operand) (ty : TypeId) (pos : String) (af : Array Edge) (g : Option (Nat × Bool)) (w : World) :
    (execOp ρ { dst := d, op := .load 162 x, type := ty, pos, after := af, guard := g }).run Try.prog w = LoadS Try.prog 162 (ρ x) w := rfl
@[go_sem ↓] theorem exec_load_iStyle (ρ : Operand → Value) (d : Option Tmp) (x : Operand) (ty : TypeId) (pos : String) (af : Array Edge) (g : Option (Nat × Bool)) (w : World) :
    (execOp ρ { dst := d, op := .load 66 x, type := ty, pos, after := af, guard := g }).run Try.prog w = LoadS Try.prog 66 (ρ x) w := rfl
@[go_sem ↓] theorem exec_store_iStyle (ρ : Operand → Value) (d : Option Tmp) (x y : Operand) (ty : TypeId) (pos : String) (af : Array Edge) (g : Option (Nat × Bool)) (w : World) :
    (execOp ρ { dst := d, op := .store 66 x y, type := ty, pos, after := af, guard := g }).run Try.prog w = StoreS Try.prog 66 (ρ x) (ρ y) w := rfl
@[go_sem] theorem LoadS_lStyle {w : World} {b o : Nat} (h : hasRow w b o 60 = true) : LoadS Try.prog 162 (.pointer (some ⟨b, o, none⟩)) w = .ok (.value (.agg (rowOf w b o 60))) w := LoadS_row Try.underlying162 rfl (by kernel_rfl) h
@[go_sem] theorem LoadS_iStyle {w : World} {b o : Nat} (h : hasRow w b o 60 = true) : LoadS Try.prog 66 (.pointer (some ⟨b, o, none⟩)) w = .ok (.value (.agg (rowOf w b o 60))) w := LoadS_row Try.underlying66 rfl (by kernel_rfl) h
@[go_sem] theorem StoreS_iStyle {w : World} {b o : Nat} {s : Style} (h : hasRow w b o 60 = true) (hz : openRow w b = true) : StoreS Try.prog 66 (.pointer (some ⟨b, o, none⟩)) (.agg s.cells.toArray) w = .ok .skip (w.setCells b o s.cells) := StoreS_row (by kernel_rfl) h hz rfl (Style.ones s)

end Go.Proofs.Ythffgbhphjkdeaa
namespace Go.Proofs.Ythffgbhphjkdeaa
open Go.RowKit

end Go.Proofs.Ythffgbhphjkdeaa
namespace Go.Proofs.Ythffgbhphjkdeaa
open Go.RowKit

end Go.Proofs.Ythffgbhphjkdeaa
namespace Go.Proofs.Ythffgbhphjkdeaa
open Go.RowKit

end Go.Proofs.Ythffgbhphjkdeaa
namespace Go.Proofs.Ythffgbhphjkdeaa
open Go.RowKit

end Go.Proofs.Ythffgbhphjkdeaa
namespace Go.Proofs.Ythffgbhphjkdeaa
open Go.RowKit

/-- A marked element's cells, its first mark q. -/
def Rule.marked (q : Int) : List Value := [.int .i64 (q), .int .i64 (q + 1), .int .i64 (q + 1 + 1)]
def Rule.marks (q : Int) : Nat → List Value
  | 0 => []
  | k + 1 => Rule.marks q k ++ Rule.marked (q + k * 3)
end Go.Proofs.Ythffgbhphjkdeaa
namespace Go.Proofs.Ythffgbhphjkdeaa
open Go.RowKit

/-- A struct that holds one new slice. -/
def NewTable (e : TypeId) (w : World) (n : Nat) (xs : List Value) (en : Ending) (w' : World) : Prop :=
  ∃ g, en = .returned (.agg #[.slice (some ⟨g, 0, none⟩) n n]) ∧ w.heap.size ≤ g ∧ w'.heap[g]? = some (.cells xs.toArray e (0, 0)) ∧ Mod (fun _ => False) w w'

end Go.Proofs.Ythffgbhphjkdeaa
namespace Go.Proofs.Ythffgbhphjkdeaa
open Go.RowKit

/-- The cells cs read as a datum of type t. -/
def Rd (P : Program) (w : World) (t : TypeId) (cs : List Value) : Prop :=
  ∃ (H : Type) (enc : TypeId × Value → H) (fuel : Nat) (x : DataW H × List MemPlace), DataW.trod enc P w 0 (fun _ => true) true fuel t cs = some x

section
variable {P : Program} {w : World} {t e : TypeId} {cs : List Value}
theorem Rd.int {k : IntKind} (h : Rd P w t cs) (hu : P.underlying t = some (.int k)) : ∃ n, cs = [.int k n] ∧ (Lit.int k n).wf = true := by
  obtain ⟨H, enc, fuel, x, h⟩ := h
  obtain ⟨n, h1, _, h2⟩ := DataW.trod_int hu h
  exact ⟨n, h1, h2⟩
theorem Rd.bool (h : Rd P w t cs) (hu : P.underlying t = some .bool) : ∃ b, cs = [.bool b] := by
  obtain ⟨H, enc, fuel, x, h⟩ := h
  obtain ⟨n, h1, _⟩ := DataW.trod_bool hu h
  exact ⟨n, h1⟩
theorem Rd.string (h : Rd P w t cs) (hu : P.underlying t = some .string) : ∃ s : ByteArray, cs = [.string s] ∧ s.size ≤ maxLen := by
  obtain ⟨H, enc, fuel, x, h⟩ := h
  obtain ⟨n, h1, _, h2⟩ := DataW.trod_string hu h
  exact ⟨n, h1, h2⟩
theorem Rd.struct {fs : Array Field} (h : Rd P w t cs) (hu : P.underlying t = some (.struct fs)) :
    cs.length = P.cellsOf t ∧ ∀ (i : Nat) (f : Field), fs[i]? = some f → Rd P w f.type ((cs.drop f.offset).take (P.cellsOf f.type)) := by
  obtain ⟨H, enc, fuel, x, h⟩ := h
  obtain ⟨xs, n, _, _, hl, hxl, hf⟩ := DataW.trod_struct hu h
  refine ⟨hl, fun i f hi => ?_⟩
  have h1 := hf i f hi
  have hil : i < xs.length := by rw [hxl]; exact (Array.getElem?_eq_some_iff.1 hi).1
  rw [List.getElem?_eq_getElem hil] at h1
  exact ⟨H, enc, n, _, h1⟩
theorem Rd.slice (h : Rd P w t cs) (hu : P.underlying t = some (.slice e)) (hc : 0 < P.cellsOf e) :
    ∃ (a : Option Addr) (len cap : Nat), cs = [.slice a len cap] ∧ len ≤ cap ∧ cap ≤ maxLen ∧
      (len = 0 ∨ ∃ b o, a = some ⟨b, o, none⟩ ∧ b < w.heap.size ∧ ∀ i, i < len → ∃ cs', (cs'.length = P.cellsOf e ∧ ∀ (j : Nat) (v : Value), cs'[j]? = some v → w.cell? ⟨b, o + i * P.cellsOf e + j, none⟩ = some v) ∧ Rd P w e cs') := by
  obtain ⟨H, enc, fuel, x, h⟩ := h
  rcases DataW.trod_slice hu h with ⟨h1, _⟩ | ⟨a, len, cap, elems, rest, n, _, h1, _, _, hl, hm, hlen, hel, _⟩
  · exact ⟨_, _, _, h1, Nat.le_refl _, Nat.zero_le _, .inl rfl⟩
  · refine ⟨some a, len, cap, h1, hl, hm, ?_⟩
    by_cases h0 : len = 0
    · exact .inl h0
    · have rows : ∀ i, i < len → ∃ cs', (cs'.length = P.cellsOf e ∧ ∀ (j : Nat), j < P.cellsOf e → w.cell? ((a.add (i * P.cellsOf e)).add j) = cs'[j]?) ∧ Rd P w e cs' := by
        intro i hi
        have h2 := hel i hi
        rw [List.getElem?_eq_getElem (by omega)] at h2
        obtain ⟨cs', h3, h4⟩ := Option.bind_eq_some_iff.1 h2
        obtain ⟨_, h5, h6⟩ := World.cells?_some h3
        exact ⟨cs', ⟨h5, h6⟩, H, enc, n, _, h4⟩
      obtain ⟨b, o, s⟩ := a
      have hs : s = none := by
        obtain ⟨cs', ⟨h5, h6⟩, _⟩ := rows 0 (by omega)
        have h7 := h6 0 hc
        rw [List.getElem?_eq_getElem (by omega)] at h7
        simpa [Addr.add] using World.cell?_spot h7
      subst hs
      have ea : ∀ p q r : Nat, ((⟨p, q, none⟩ : Addr).add r) = ⟨p, q + r, none⟩ := by intro p q r; unfold Addr.add; split <;> simp_all
      have hb : b < w.heap.size := by
        obtain ⟨cs', ⟨h5, h6⟩, _⟩ := rows 0 (by omega)
        have h7 := h6 0 hc
        rw [List.getElem?_eq_getElem (by omega), ea, ea] at h7
        exact World.block_lt_of_cell? w ⟨b, _, none⟩ h7
      refine .inr ⟨b, o, rfl, hb, fun i hi => ?_⟩
      obtain ⟨cs', ⟨h5, h6⟩, h7⟩ := rows i hi
      refine ⟨cs', ⟨h5, fun j v hj => ?_⟩, h7⟩
      have h8 := h6 j (by have := (List.getElem?_eq_some_iff.1 hj).1; omega)
      rw [ea, ea] at h8
      rw [h8, hj]
end

theorem rd_list {α : Type} {rep : List Value → α → Prop} {Q : Nat → List Value → Prop} (n : Nat) (h : ∀ i, i < n → ∃ cs, Q i cs ∧ ∃ x, rep cs x) :
    ∃ (rows : List (List Value)) (l : List α), rows.length = n ∧ l.length = n ∧ (∀ (i : Nat) (r : List Value), rows[i]? = some r → Q i r) ∧ ∀ (i : Nat) (r : List Value) (x : α), rows[i]? = some r → l[i]? = some x → rep r x := by
  induction n with
  | zero => exact ⟨[], [], rfl, rfl, fun i r h => by simp at h, fun i r x h => by simp at h⟩
  | succ n ih =>
    obtain ⟨rows, l, h1, h2, h3, h4⟩ := ih fun i hi => h i (by omega)
    obtain ⟨cs, hQ, x, hr⟩ := h n (by omega)
    refine ⟨rows ++ [cs], l ++ [x], by simp [h1], by simp [h2], fun i r hi => ?_, fun i r y hi hl => ?_⟩
    · by_cases e : i < rows.length
      · rw [List.getElem?_append_left e] at hi
        exact h3 i r hi
      · rw [List.getElem?_append_right (by omega)] at hi
        have : i = n := by
          have := (List.getElem?_eq_some_iff.1 hi).1
          simp at this
          omega
        subst this
        rw [h1, Nat.sub_self] at hi
        simp at hi
        subst hi
        exact hQ
    · by_cases e : i < rows.length
      · rw [List.getElem?_append_left e] at hi
        rw [List.getElem?_append_left (by omega)] at hl
        exact h4 i r y hi hl
      · rw [List.getElem?_append_right (by omega)] at hi
        rw [List.getElem?_append_right (by omega)] at hl
        have : i = n := by
          have := (List.getElem?_eq_some_iff.1 hi).1
          simp at this
          omega
        subst this
        rw [h1, Nat.sub_self] at hi
        rw [h2, Nat.sub_self] at hl
        simp at hi hl
        subst hi; subst hl
        exact hr

/-- A slice argument reads as a list. -/
theorem Rd.list {P : Program} {w : World} {t e : TypeId} {cs : List Value} {α : Type} {rep : World → List Value → α → Prop} {sz : Nat} (h : Rd P w t cs) (hu : P.underlying t = some (.slice e)) (hsz : P.cellsOf e = sz) (hp : 0 < sz)
    (hr : ∀ cs', Rd P w e cs' → ∃ x, rep w cs' x) :
    ∃ (a : Option Addr) (l : List α) (cap : Nat), cs = [.slice a l.length cap] ∧ l.length ≤ cap ∧ cap ≤ maxLen ∧ SliceAt rep sz (fun k => k < w.heap.size) w a l := by
  obtain ⟨a, len, cap, hcs, hl, hm, hrest⟩ := h.slice hu (by omega)
  rw [hsz] at hrest
  rcases hrest with h0 | ⟨b, o, rfl, hb, hrows⟩
  · subst h0
    exact ⟨a, [], cap, hcs, hl, hm, SliceAt.nil⟩
  · obtain ⟨rows, l, h1, h2, h3, h4⟩ := rd_list (rep := rep w) (Q := fun i cs' => cs'.length = sz ∧ ∀ (j : Nat) (v : Value), cs'[j]? = some v → w.cell? ⟨b, o + i * sz + j, none⟩ = some v) len
      fun i hi => by
        obtain ⟨cs', hQ, hrd⟩ := hrows i hi
        exact ⟨cs', hQ, hr cs' hrd⟩
    subst h2
    exact ⟨_, l, cap, hcs, hl, hm, rows, .inr ⟨b, o, rfl, hb, hb, h3⟩, h1, h4⟩

/-- A reading with a property of each element: the reading, and the property of all. -/
theorem SliceAt.split {α : Type} {cells : α → List Value} {p : α → Prop} {sz : Nat} {R : Nat → Prop} {w : World} {a : Option Addr} {l : List α} (h : SliceAt (fun _ r x => r = cells x ∧ p x) sz R w a l) :
    SliceAt (Flat cells) sz R w a l ∧ ∀ x ∈ l, p x := by
  obtain ⟨rows, h1, h2, h3⟩ := h
  refine ⟨⟨rows, h1, h2, fun i r x hr hx => (h3 i r x hr hx).1⟩, fun x hx => ?_⟩
  obtain ⟨i, hi, rfl⟩ := List.mem_iff_getElem.1 hx
  have hr : rows[i]? = some (rows[i]'(by omega)) := List.getElem?_eq_getElem (by omega)
  exact (h3 i _ _ hr (List.getElem?_eq_getElem hi)).2

end Go.Proofs.Ythffgbhphjkdeaa
namespace Go.Proofs.Ythffgbhphjkdeaa
open Go.RowKit

/-- A table's value reads as its rules. -/
def TableAt (l : List Rule) (w : World) (v : Value) : Prop := ∃ a c, v = .agg #[.slice a l.length c] ∧ ∃ R, SliceAt (Flat Rule.cells) 3 R w a l
theorem TableAt.keep {l : List Rule} {w w' : World} {v : Value} (h : TableAt l w v) (hm : Mod (fun _ => False) w w') : TableAt l w' v := by
  obtain ⟨a, c, h1, R, h2⟩ := h
  exact ⟨a, c, h1, R, h2.flatKeep hm⟩
theorem NewTable.at {w w' : World} {l : List Rule} {en : Ending} (h : NewTable 152 w l.length (l.map Rule.cells).flatten en w') :
    ∃ v, en = .returned v ∧ TableAt l w' v ∧ Mod (fun _ => False) w w' := by
  obtain ⟨g, he, hg, hb, hm⟩ := h
  exact ⟨_, he, ⟨_, _, rfl, _, flat_of_blk hb (fun _ => rfl)⟩, hm⟩

end Go.Proofs.Ythffgbhphjkdeaa
namespace Go.Proofs.Ythffgbhphjkdeaa
open Go.RowKit

def icell (x : Int) : List Value := [.int .i64 x]
abbrev IntSlice (R : Nat → Prop) (w : World) (a : Option Addr) (l : List Int) : Prop := SliceAt (Flat icell) 1 R w a l

theorem IntSlice.get {R : Nat → Prop} {w : World} {a : Option Addr} {l : List Int} (h : IntSlice R w a l) {k : Nat} (hk : k < l.length) :
    ∃ b o x, a = some ⟨b, o, none⟩ ∧ R b ∧ b < w.heap.size ∧ Hid (l[k]? = some x) ∧ w.cell? ⟨b, o + k, none⟩ = some (.int .i64 x) := by
  obtain ⟨b, o, x, r, rfl, hR, hb, hx, hr, _, hc⟩ := SliceAt.get h hk
  obtain rfl : r = icell x := hr
  have := hc 0 _ rfl
  rw [Nat.mul_one, Nat.add_zero] at this
  exact ⟨b, o, x, rfl, hR, hb, hx, this⟩
theorem IntSlice.at {R : Nat → Prop} {w : World} {a : Option Addr} {l : List Int} (h : IntSlice R w a l) : IntsAt w a l := by
  by_cases hl : l = []
  · exact .inl hl
  · obtain ⟨b, o, x, rfl, _⟩ := h.get (List.length_pos_iff.2 hl)
    refine .inr ⟨b, o, rfl, fun i hi => ?_⟩
    obtain ⟨b', o', y, e, _, _, hy, hc⟩ := h.get hi
    simp only [Option.some.injEq, Addr.mk.injEq, and_true] at e
    obtain ⟨rfl, rfl⟩ := e
    rw [hc]
    have := hy.out
    simp [List.getD, this]
end Go.Proofs.Ythffgbhphjkdeaa
namespace Go.Proofs.Ythffgbhphjkdeaa
open Go.RowKit

/-- The cells of marks from q on. -/
def IntM.marks (q : Int) : Nat → List Value
  | 0 => []
  | k + 1 => IntM.marks q k ++ icell (q + k)
end Go.Proofs.Ythffgbhphjkdeaa
namespace Go.Proofs.Ythffgbhphjkdeaa
open Go.RowKit

structure Node where
  up : Int
  kids : List Int
  style : Style
  measured : Bool
  rules : List Rule
  deriving DecidableEq, Inhabited
/-- A node's cells: two slices among them. -/
def nodeRow (up : Int) (k : Option Addr) (n c : Nat) (s : Style) (m : Bool) (t : Option Addr) (n' c' : Nat) : List Value := [.int .i64 up, .slice k n c] ++ s.cells ++ [.bool m, .slice t n' c']

section
variable (up : Int) (k : Option Addr) (n c : Nat) (s : Style) (m : Bool) (t : Option Addr) (n' c' : Nat)
theorem nodeRow_len : (nodeRow up k n c s m t n' c').length = 64 := rfl
theorem nodeRow_ones : (nodeRow up k n c s m t n' c').toArray.all (·.oneCell') = true := by simp [nodeRow, Style.cells, Value.oneCell']
@[go_sem] theorem nodeRow_0 : (nodeRow up k n c s m t n' c')[0]? = some (.int .i64 up) := rfl
@[go_sem] theorem nodeRow_1 : (nodeRow up k n c s m t n' c')[1]? = some (.slice k n c) := rfl
@[go_sem] theorem nodeRow_62 : (nodeRow up k n c s m t n' c')[62]? = some (.bool m) := rfl
@[go_sem] theorem nodeRow_63 : (nodeRow up k n c s m t n' c')[63]? = some (.slice t n' c') := rfl
@[go_sem] theorem nodeRow_a0 : (nodeRow up k n c s m t n' c').toArray[0]? = some (.int .i64 up) := rfl
@[go_sem] theorem nodeRow_a1 : (nodeRow up k n c s m t n' c').toArray[1]? = some (.slice k n c) := rfl
@[go_sem] theorem nodeRow_a62 : (nodeRow up k n c s m t n' c').toArray[62]? = some (.bool m) := rfl
@[go_sem] theorem nodeRow_a63 : (nodeRow up k n c s m t n' c').toArray[63]? = some (.slice t n' c') := rfl
@[go_sem] theorem nodeRow_set0 (v : Int) : (nodeRow up k n c s m t n' c').set 0 (.int .i64 v) = nodeRow v k n c s m t n' c' := rfl
@[go_sem] theorem nodeRow_set1 (a : Option Addr) (p q : Nat) : (nodeRow up k n c s m t n' c').set 1 (.slice a p q) = nodeRow up a p q s m t n' c' := rfl
@[go_sem] theorem nodeRow_set62 (b : Bool) : (nodeRow up k n c s m t n' c').set 62 (.bool b) = nodeRow up k n c s b t n' c' := rfl
@[go_sem] theorem nodeRow_set63 (a : Option Addr) (p q : Nat) : (nodeRow up k n c s m t n' c').set 63 (.slice a p q) = nodeRow up k n c s m a p q := rfl
theorem nodeRow_style : ((nodeRow up k n c s m t n' c').drop 2).take 60 = s.cells := rfl
end

/-- A part of a block that is known whole. -/

@[go_sem] theorem cell_style_apart (w : World) (b o j : Nat) (s : Style) (h : o + 60 ≤ j) : (w.setCells b o s.cells).cell? ⟨b, j, none⟩ = w.cell? ⟨b, j, none⟩ := cell_setCells_apart b o j _ (.inr (by rw [Style.len]; exact h))

/-- Whole loads and stores of nodes and styles, as the walk meets them. -/
@[go_sem ↓] theorem exec_load_lNode (ρ : Operand → Value) (d : Option Tmp) (x : Operand) (ty : TypeId) (pos : String) (af : Array Edge) (g : Option (Nat × Bool)) (w : World) :
    (execOp ρ { dst := d, op := .load 167 x, type := ty, pos, after := af, guard := g }).run Try.prog w = LoadS Try.prog 167 (ρ x) w := rfl
@[go_sem ↓] theorem exec_load_iNode (ρ : Operand → Value) (d : Option Tmp) (x : Operand) (ty : TypeId) (pos : String) (af : Array Edge) (g : Option (Nat × Bool)) (w : World) :
    (execOp ρ { dst := d, op := .load 86 x, type := ty, pos, after := af, guard := g }).run Try.prog w = LoadS Try.prog 86 (ρ x) w := rfl
@[go_sem ↓] theorem exec_store_iNode (ρ : Operand → Value) (d : Option Tmp) (x y : Operand) (ty : TypeId) (pos : String) (af : Array Edge) (g : Option (Nat × Bool)) (w : World) :
    (execOp ρ { dst := d, op := .store 86 x y, type := ty, pos, after := af, guard := g }).run Try.prog w = StoreS Try.prog 86 (ρ x) (ρ y) w := rfl
@[go_sem] theorem LoadS_lNode {w : World} {b o : Nat} (h : hasRow w b o 64 = true) : LoadS Try.prog 167 (.pointer (some ⟨b, o, none⟩)) w = .ok (.value (.agg (rowOf w b o 64))) w := LoadS_row Try.underlying167 rfl (by kernel_rfl) h
@[go_sem] theorem LoadS_iNode {w : World} {b o : Nat} (h : hasRow w b o 64 = true) : LoadS Try.prog 86 (.pointer (some ⟨b, o, none⟩)) w = .ok (.value (.agg (rowOf w b o 64))) w := LoadS_row Try.underlying86 rfl (by kernel_rfl) h
@[go_sem] theorem StoreS_iNode {w : World} {b o : Nat} {up : Int} {k : Option Addr} {n c : Nat} {s : Style} {m : Bool} {t : Option Addr} {n' c' : Nat} (h : hasRow w b o 64 = true) (hz : openRow w b = true) :
    StoreS Try.prog 86 (.pointer (some ⟨b, o, none⟩)) (.agg (nodeRow up k n c s m t n' c').toArray) w = .ok .skip (w.setCells b o (nodeRow up k n c s m t n' c')) := StoreS_row (by kernel_rfl) h hz rfl (nodeRow_ones _ _ _ _ _ _ _ _ _)

def Style.zero : Style := default
end Go.Proofs.Ythffgbhphjkdeaa
namespace Go.Proofs.Ythffgbhphjkdeaa
open Go.RowKit

/-- A slice's block may be written. -/
def Wr (e sz : Nat) (R : Nat → Prop) (w : World) (a : Option Addr) (n : Nat) : Prop := n = 0 ∨ ∃ g N, a = some ⟨g, 0, none⟩ ∧ R g ∧ n * sz ≤ N ∧ Filled g e N w []
theorem Wr.mod {e sz : Nat} {R S : Nat → Prop} {w w' : World} {a : Option Addr} {n : Nat} (h : Wr e sz R w a n) (hm : Mod S w w') (hs : ∀ k, R k → ¬ S k) : Wr e sz R w' a n := by
  rcases h with h | ⟨g, N, h1, h2, h3, h4⟩
  · exact .inl h
  · exact .inr ⟨g, N, h1, h2, h3, h4.mod hm (hs g h2)⟩
theorem Wr.weaken {e sz : Nat} {R S : Nat → Prop} {w : World} {a : Option Addr} {n : Nat} (h : Wr e sz R w a n) (hs : ∀ k, k < w.heap.size → R k → S k) : Wr e sz S w a n := by
  rcases h with h | ⟨g, N, h1, h2, h3, h4⟩
  · exact .inl h
  · exact .inr ⟨g, N, h1, hs g h4.size h2, h3, h4⟩
theorem Filled.none {g e N : Nat} {w : World} {xs : List Value} (h : Filled g e N w xs) : Filled g e N w [] := by
  obtain ⟨cur, h1, h2, _⟩ := h
  exact ⟨cur, h1, h2, by simp⟩
theorem Filled.ne {g g' e e' N N' : Nat} {w : World} {xs ys : List Value} (h : Filled g e N w xs) (h' : Filled g' e' N' w ys) (he : e ≠ e') : g ≠ g' := by
  rintro rfl
  obtain ⟨cur, h1, _⟩ := h
  obtain ⟨cur', h1', _⟩ := h'
  rw [h1] at h1'
  simp only [Option.some.injEq, Obj.cells.injEq] at h1'
  exact he h1'.2.1
/-- A written block stays one: a cell of it, or of another. -/
theorem Filled.set {g e N : Nat} {w : World} (h : Filled g e N w []) (b j : Nat) (s : Option Nat) (v : Value) : Filled g e N (w.setCell ⟨b, j, s⟩ v) [] := by
  obtain ⟨cur, h1, h2, _⟩ := h
  by_cases e' : g = b
  · subst e'
    cases s with
    | none => exact ⟨cur.setIfInBounds j v, by simp [World.setCell, Array.getElem?_modify, h1], by simpa using h2, by simp⟩
    | some s => exact ⟨_, by simp only [World.setCell, Array.getElem?_modify, h1]; rfl, by simp; exact h2, by simp⟩
  · exact ⟨cur, (Below.heap_setCell _ _ _ _ e').trans h1, h2, by simp⟩
theorem Wr.set {e sz : Nat} {R : Nat → Prop} {w : World} {a : Option Addr} {n : Nat} (h : Wr e sz R w a n) (b j : Nat) (s : Option Nat) (v : Value) : Wr e sz R (w.setCell ⟨b, j, s⟩ v) a n := by
  rcases h with h | ⟨g, N, h1, h2, h3, h4⟩
  · exact .inl h
  · exact .inr ⟨g, N, h1, h2, h3, h4.set b j s v⟩
/-- Behind a callee that wrote one block, and left it one that may be written. -/
theorem Filled.after {g e N n h e' N' : Nat} {w w' : World} {xs : List Value} (hf : Filled g e N w []) (hh : n = 0 ∨ Filled h e' N' w []) (hm : Mod (fun k => k = h) w w') (hp : n = 0 ∨ Filled h e' N' w' xs) (h0 : n = 0 → w = w') : Filled g e N w' [] := by
  by_cases hg : g = h
  · subst hg
    rcases hp with hp | hp
    · rw [← h0 hp]; exact hf
    · obtain ⟨cur, h1, h2, _⟩ := hf
      rcases hh with hn | ⟨cur2, h3, h4, _⟩
      · rw [← h0 hn]; exact ⟨cur, h1, h2, by simp⟩
      · rw [h1] at h3
        simp only [Option.some.injEq, Obj.cells.injEq] at h3
        obtain ⟨rfl, rfl, _⟩ := h3
        obtain ⟨cur3, h5, h6, _⟩ := hp
        exact ⟨cur3, h5, by omega, by simp⟩
  · exact hf.mod hm hg

theorem SliceAt.wide {α : Type} {cells : α → List Value} {sz : Nat} {R S : Nat → Prop} {w : World} {a : Option Addr} {l : List α} (h : SliceAt (Flat cells) sz R w a l) (hs : ∀ k, k < w.heap.size → R k → S k) : SliceAt (Flat cells) sz S w a l := by
  obtain ⟨rows, h1, h2, h3⟩ := h
  exact ⟨rows, h1.weaken hs, h2, h3⟩

theorem Filled.row {g e N : Nat} {w : World} {xs : List Value} (h : Filled g e N w xs) (off sz : Nat) (hn : off + sz ≤ N) : hasRow w g off sz = true := by
  obtain ⟨cur, h1, h2, _⟩ := h
  simp [hasRow, h1, h2, hn]
theorem Filled.open {g e N : Nat} {w : World} {xs : List Value} (h : Filled g e N w xs) : openRow w g = true := by
  obtain ⟨cur, h1, _⟩ := h
  simp [openRow, h1]
/-- Blocks that may be written stay so; those whose type is not in P are as they were. -/
def KeepB (P : Nat → Prop) (w w' : World) : Prop := ∀ g e N, Filled g e N w [] → Filled g e N w' [] ∧ (¬ P e → w'.heap[g]? = w.heap[g]?)
theorem KeepB.refl (P : Nat → Prop) (w : World) : KeepB P w w := fun _ _ _ h => ⟨h, fun _ => rfl⟩
theorem KeepB.trans {P : Nat → Prop} {a b c : World} (h : KeepB P a b) (k : KeepB P b c) : KeepB P a c := fun g e N hf => by
  obtain ⟨h1, h2⟩ := h g e N hf
  obtain ⟨h3, h4⟩ := k g e N h1
  exact ⟨h3, fun hp => (h4 hp).trans (h2 hp)⟩
theorem KeepB.mono {P Q : Nat → Prop} {a b : World} (h : KeepB P a b) (hq : ∀ e, P e → Q e) : KeepB Q a b := fun g e N hf => ⟨(h g e N hf).1, fun hn => (h g e N hf).2 fun hp => hn (hq e hp)⟩
theorem KeepB.none {P : Nat → Prop} {a b : World} (h : Mod (fun _ => False) a b) : KeepB P a b := fun g _ _ hf => ⟨hf.mod h (fun f => f), fun _ => h.block g hf.size (fun f => f)⟩
theorem KeepB.set {P : Nat → Prop} {a w : World} (h : KeepB P a w) {b e N : Nat} (hb : Filled b e N a []) (he : P e) (j : Nat) (s : Option Nat) (v : Value) : KeepB P a (w.setCell ⟨b, j, s⟩ v) := fun g e' N' hf => by
  refine ⟨(h g e' N' hf).1.set b j s v, fun hn => ?_⟩
  have hg : g ≠ b := by
    rintro rfl
    refine hf.ne (g' := g) hb ?_ rfl
    rintro rfl
    exact hn he
  rw [Below.heap_setCell _ _ _ _ hg]
  exact (h g e' N' hf).2 hn
theorem Wr.keep {P : Nat → Prop} {e sz : Nat} {R : Nat → Prop} {w w' : World} {a : Option Addr} {n : Nat} (h : Wr e sz R w a n) (hk : KeepB P w w') : Wr e sz R w' a n := by
  rcases h with h | ⟨g, N, h1, h2, h3, h4⟩
  · exact .inl h
  · exact .inr ⟨g, N, h1, h2, h3, (hk g e N h4).1⟩
end Go.Proofs.Ythffgbhphjkdeaa
namespace Go.Proofs.Ythffgbhphjkdeaa
open Go.RowKit
attribute [local irreducible] Style.cells nodeRow

/-- A node's cells read as the node; o: its slices may be written. -/
def NodeIn (o : Bool) (R : Nat → Prop) (w : World) (cs : List Value) (x : Node) : Prop :=
  ∃ k c t c', cs = nodeRow x.up k x.kids.length c x.style x.measured t x.rules.length c' ∧ IntSlice R w k x.kids ∧ SliceAt (Flat Rule.cells) 3 R w t x.rules ∧ (o = true → Wr 3 1 R w k x.kids.length ∧ Wr 152 3 R w t x.rules.length)
theorem NodeIn.mod {o : Bool} {R S : Nat → Prop} {w w' : World} {cs : List Value} {x : Node} (h : NodeIn o R w cs x) (hm : Mod S w w') (hs : ∀ k, R k → ¬ S k) : NodeIn o R w' cs x := by
  obtain ⟨k, c, t, c', h1, h2, h3, h4⟩ := h
  exact ⟨k, c, t, c', h1, h2.flatMod hm hs, h3.flatMod hm hs, fun ho => ⟨(h4 ho).1.mod hm hs, (h4 ho).2.mod hm hs⟩⟩
theorem NodeIn.keep {o : Bool} {R : Nat → Prop} {w w' : World} {cs : List Value} {x : Node} (h : NodeIn o R w cs x) (hm : Mod (fun _ => False) w w') : NodeIn o R w' cs x := h.mod hm fun _ _ f => f
theorem NodeIn.wide {o : Bool} {R S : Nat → Prop} {w : World} {cs : List Value} {x : Node} (h : NodeIn o R w cs x) (hs : ∀ k, k < w.heap.size → R k → S k) : NodeIn o S w cs x := by
  obtain ⟨k, c, t, c', h1, h2, h3, h4⟩ := h
  exact ⟨k, c, t, c', h1, SliceAt.wide h2 hs, SliceAt.wide h3 hs, fun ho => ⟨(h4 ho).1.weaken hs, (h4 ho).2.weaken hs⟩⟩
theorem NodeIn.len {o : Bool} {R : Nat → Prop} {w : World} {cs : List Value} {x : Node} (h : NodeIn o R w cs x) : cs.length = 64 := by
  obtain ⟨k, c, t, c', rfl, _⟩ := h
  exact nodeRow_len _ _ _ _ _ _ _ _ _

end Go.Proofs.Ythffgbhphjkdeaa
namespace Go.Proofs.Ythffgbhphjkdeaa
open Go.RowKit
attribute [local irreducible] Style.cells nodeRow

abbrev NodeSlice (o : Bool) (R : Nat → Prop) (w : World) (a : Option Addr) (l : List Node) : Prop := SliceAt (NodeIn o R) 64 R w a l
theorem NodeSlice.mod {o : Bool} {R S : Nat → Prop} {w w' : World} {a : Option Addr} {l : List Node} (h : NodeSlice o R w a l) (hm : Mod S w w') (hs : ∀ k, R k → ¬ S k) : NodeSlice o R w' a l := SliceAt.mod h hm hs fun _ _ hx => hx.mod hm hs
theorem NodeSlice.keep {o : Bool} {R : Nat → Prop} {w w' : World} {a : Option Addr} {l : List Node} (h : NodeSlice o R w a l) (hm : Mod (fun _ => False) w w') : NodeSlice o R w' a l := h.mod hm fun _ _ f => f
/-- Lengths that a walk can bear. -/
def Node.fits (n : Nat) (x : Node) : Prop := x.kids.length ≤ n ∧ x.rules.length ≤ n

end Go.Proofs.Ythffgbhphjkdeaa
namespace Go.Proofs.Ythffgbhphjkdeaa
open Go.RowKit
set_option linter.unusedVariables false
set_option linter.unusedSimpArgs false

set_option maxRecDepth 100000 in
theorem isNode_any (m : Nat) (a : Option Addr) (c : Nat) (n : Int) (w : World) : Calls Try.prog 73 #[.agg #[.slice a m c], .int .i64 n] w fun e w' => e = .returned (.bool (inB n 1 m)) ∧ Mod (fun _ => False) w w' := by
  refine calls_sx Try.func73 rfl rfl (fun a h1 h2 h3 => ((Fr.nil h1 h2).arg (h3 1 _ rfl)).arg (h3 0 _ rfl)) ?_
  repeat (first | refine qan ?_ | refine qaj ?_ | refine qaf ?_ | refine qad ?_ | (refine qat ?_; (refine qac (qaL rfl (fun w _ => in_any _ _ _ _)) rfl ?_ ?_ ?_); rfl; rfl) | (refine qau ?_; (refine qac (qaw 0 rfl rfl rfl) rfl ?_ ?_ ?_); rfl; rfl) | (refine qak ?_; (refine qac (qae rfl) rfl ?_ ?_ ?_); rfl; rfl) | (refine qao ?_; (refine qac (qai rfl) rfl ?_ ?_ ?_); rfl; rfl) | (refine qal ?_; (refine qac (qag rfl) rfl ?_ ?_ ?_); rfl; rfl) | (refine l_len ?_; (refine qac (OpW.len rfl) rfl ?_ ?_ ?_); rfl; rfl) | (refine l_box ?_; refine qaG ?_ ?_ rfl rfl (fun g => ?_); rfl; rfl) | refine qaA ?_)
  refine qaz rfl rfl (fun w' hl => ⟨rfl, hl.mod⟩)
set_option maxRecDepth 100000 in
theorem sisNode_any (m : Nat) (a : Option Addr) (c : Nat) (n : Int) (w : World) : Calls Try.prog 78 #[.agg #[.slice a m c], .int .i64 n] w fun e w' => e = .returned (.bool (inB n 1 m)) ∧ Mod (fun _ => False) w w' := by
  refine calls_sx Try.func78 rfl rfl (fun a h1 h2 h3 => ((Fr.nil h1 h2).arg (h3 1 _ rfl)).arg (h3 0 _ rfl)) ?_
  repeat (first | refine qan ?_ | refine qaj ?_ | refine qaf ?_ | refine qad ?_ | (refine qat ?_; (refine qac (qaL rfl (fun w _ => l01In_any _ _ _ _)) rfl ?_ ?_ ?_); rfl; rfl) | (refine qau ?_; (refine qac (qaw 0 rfl rfl rfl) rfl ?_ ?_ ?_); rfl; rfl) | (refine qak ?_; (refine qac (qae rfl) rfl ?_ ?_ ?_); rfl; rfl) | (refine qao ?_; (refine qac (qai rfl) rfl ?_ ?_ ?_); rfl; rfl) | (refine qal ?_; (refine qac (qag rfl) rfl ?_ ?_ ?_); rfl; rfl) | (refine l_len ?_; (refine qac (OpW.len rfl) rfl ?_ ?_ ?_); rfl; rfl) | (refine l_box ?_; refine qaG ?_ ?_ rfl rfl (fun g => ?_); rfl; rfl) | refine qaA ?_)
  refine qaz rfl rfl (fun w' hl => ⟨rfl, hl.mod⟩)

set_option maxRecDepth 100000 in
set_option maxHeartbeats 4000000 in
theorem node_any (m b o c k : Nat) (up : Int) (q : Option Addr) (qn qc : Nat) (st : Style) (me : Bool) (u : Option Addr) (un uc : Nat) (w : World) (hm : m ≤ 1048576) (hk : k < m) (hc : ∀ j v, (nodeRow up q qn qc st me u un uc)[j]? = some v → w.cell? ⟨b, o + k * 64 + j, none⟩ = some v) :
    Calls Try.prog 74 #[.agg #[.slice (some ⟨b, o, none⟩) m c], .int .i64 ((k + 1 : Nat) : Int)] w fun e w' => e = .returned (.agg (nodeRow up q qn qc st me u un uc).toArray) ∧ Mod (fun _ => False) w w' := by
  refine calls_sx Try.func74 rfl rfl (fun a h1 h2 h3 => ((Fr.nil h1 h2).arg (h3 1 _ rfl)).arg (h3 0 _ rfl)) ?_
  repeat (first | refine qan ?_ | refine qaj ?_ | refine qaf ?_ | refine qad ?_ | (refine qau ?_; (first | refine qac (OpW.loadRowOld rfl hc (nodeRow_len _ _ _ _ _ _ _ _ _) (Nat.succ_pos _) (fun h => h)) rfl ?_ ?_ ?_ | refine qac (qaw 1 rfl rfl rfl) rfl ?_ ?_ ?_); rfl; rfl) | (refine qaM ?_; (refine qac ((qaJ (i := k) hk rfl (congrArg (fun i : Int => some (Value.int .i64 i)) (by omega : ((k + 1 : Nat) : Int) - 1 = (k : Int))))) rfl ?_ ?_ ?_); rfl; rfl) | (refine qak ?_; (refine qac (qae rfl) rfl ?_ ?_ ?_); rfl; rfl) | (refine qao ?_; (refine qac (qai rfl) rfl ?_ ?_ ?_); rfl; rfl) | (refine l_sub ?_; (refine qac (OpW.subi rfl rfl (by omega) (by omega)) rfl ?_ ?_ ?_); rfl; rfl) | (refine qaR ?_; refine SXl.alloc ?_ ?_ (fun g => ?_); rfl; rfl) | (refine l_box ?_; refine qaG ?_ ?_ rfl rfl (fun g => ?_); rfl; rfl) | (refine qay ?_; first | ((first | refine qaa 0 ?_ rfl rfl rfl rfl rfl rfl rfl ?_ | refine qaa 1 ?_ rfl rfl rfl rfl rfl rfl rfl ?_ | refine qaa 2 ?_ rfl rfl rfl rfl rfl rfl rfl ?_); rfl; simp only [List.set_cons_zero, List.set_cons_succ]) | ((first | refine qab 0 ?_ rfl rfl rfl rfl rfl rfl rfl ?_ | refine qab 1 ?_ rfl rfl rfl rfl rfl rfl rfl ?_ | refine qab 2 ?_ rfl rfl rfl rfl rfl rfl rfl ?_); rfl; simp only [over, List.set_cons_zero, List.set_cons_succ])) | refine qaA ?_)
  refine qaK 0 rfl rfl rfl rfl (fun w' hl => ⟨rfl, hl.mod⟩)

set_option maxRecDepth 100000 in
set_option maxHeartbeats 4000000 in
theorem snode_any (m b o c k : Nat) (up : Int) (q : Option Addr) (qn qc : Nat) (st : Style) (me : Bool) (u : Option Addr) (un uc : Nat) (w : World) (hm : m ≤ 1048576) (hk : k < m) (hc : ∀ j v, (nodeRow up q qn qc st me u un uc)[j]? = some v → w.cell? ⟨b, o + k * 64 + j, none⟩ = some v) :
    Calls Try.prog 79 #[.agg #[.slice (some ⟨b, o, none⟩) m c], .int .i64 ((k + 1 : Nat) : Int)] w fun e w' => e = .returned (.agg (nodeRow up q qn qc st me u un uc).toArray) ∧ Mod (fun _ => False) w w' := by
  refine calls_sx Try.func79 rfl rfl (fun a h1 h2 h3 => ((Fr.nil h1 h2).arg (h3 1 _ rfl)).arg (h3 0 _ rfl)) ?_
  repeat (first | refine qan ?_ | refine qaj ?_ | refine qaf ?_ | refine qad ?_ | (refine qau ?_; (first | refine qac (OpW.loadRowOld rfl hc (nodeRow_len _ _ _ _ _ _ _ _ _) (Nat.succ_pos _) (fun h => h)) rfl ?_ ?_ ?_ | refine qac (qaw 1 rfl rfl rfl) rfl ?_ ?_ ?_); rfl; rfl) | (refine qaM ?_; (refine qac ((qaJ (i := k) hk rfl (congrArg (fun i : Int => some (Value.int .i64 i)) (by omega : ((k + 1 : Nat) : Int) - 1 = (k : Int))))) rfl ?_ ?_ ?_); rfl; rfl) | (refine qak ?_; (refine qac (qae rfl) rfl ?_ ?_ ?_); rfl; rfl) | (refine qao ?_; (refine qac (qai rfl) rfl ?_ ?_ ?_); rfl; rfl) | (refine l_sub ?_; (refine qac (OpW.subi rfl rfl (by omega) (by omega)) rfl ?_ ?_ ?_); rfl; rfl) | (refine qaR ?_; refine SXl.alloc ?_ ?_ (fun g => ?_); rfl; rfl) | (refine l_box ?_; refine qaG ?_ ?_ rfl rfl (fun g => ?_); rfl; rfl) | (refine qay ?_; first | ((first | refine qaa 0 ?_ rfl rfl rfl rfl rfl rfl rfl ?_ | refine qaa 1 ?_ rfl rfl rfl rfl rfl rfl rfl ?_ | refine qaa 2 ?_ rfl rfl rfl rfl rfl rfl rfl ?_); rfl; simp only [List.set_cons_zero, List.set_cons_succ]) | ((first | refine qab 0 ?_ rfl rfl rfl rfl rfl rfl rfl ?_ | refine qab 1 ?_ rfl rfl rfl rfl rfl rfl rfl ?_ | refine qab 2 ?_ rfl rfl rfl rfl rfl rfl rfl ?_); rfl; simp only [over, List.set_cons_zero, List.set_cons_succ])) | refine qaA ?_)
  refine qaK 0 rfl rfl rfl rfl (fun w' hl => ⟨rfl, hl.mod⟩)

instance : TFv Try.prog 86 0 0 := ⟨_, _, _, Try.underlying86, rfl, rfl, Try.underlying3, rfl⟩
/-- The depth of node n, counted on from d, within a number of steps. -/
def depthF (l : List Node) : Nat → Int → Nat → Int
  | 0, _, _ => 0
  | f + 1, n, d => if n = 0 then d else if inB n 1 l.length then depthF l f ((l[(n - 1).toNat]?).getD default).up (d + 1) else 0
theorem depthF_zero {l : List Node} {d : Nat} (h : d ≤ l.length) : depthF l (l.length + 1 - d) 0 d = d := by
  rw [show l.length + 1 - d = (l.length - d) + 1 by omega]; rfl
theorem depthF_out {l : List Node} {d : Nat} {n : Int} (h : d ≤ l.length) (h0 : n ≠ 0) (hq : inB n 1 l.length = false) : depthF l (l.length + 1 - d) n d = 0 := by
  rw [show l.length + 1 - d = (l.length - d) + 1 by omega]; simp [depthF, h0, hq]
theorem depthF_up {l : List Node} {d k : Nat} {x : Node} (h : d ≤ l.length) (hx : l[k]? = some x) : depthF l (l.length + 1 - d) ((k + 1 : Nat) : Int) d = depthF l (l.length + 1 - (d + 1)) x.up (d + 1) := by
  have hk := (List.getElem?_eq_some_iff.1 hx).1
  rw [show l.length + 1 - d = (l.length + 1 - (d + 1)) + 1 by omega]
  show (if ((k + 1 : Nat) : Int) = 0 then _ else if inB ((k + 1 : Nat) : Int) 1 l.length then _ else _) = _
  rw [if_neg (by omega), inB_true (by omega) (by omega), if_pos rfl, show (((k + 1 : Nat) : Int) - 1).toNat = k by omega, hx]; rfl
theorem depthF_over {l : List Node} {d : Nat} {n : Int} (h : l.length + 1 ≤ d) : depthF l (l.length + 1 - d) n d = 0 := by
  rw [show l.length + 1 - d = 0 by omega]; rfl
theorem depthF_end {l : List Node} {d : Nat} {n : Int} (h : d ≤ l.length) (hd : l.length ≤ d) (h0 : n ≠ 0) : depthF l (l.length + 1 - d) n d = 0 := by
  rw [show l.length + 1 - d = 0 + 1 by omega]; simp [depthF, h0]
theorem inB_node {n : Int} {m : Nat} (h : inB n 1 m = true) : ∃ k : Nat, n = ((k + 1 : Nat) : Int) ∧ k < m := by
  have := of_decide_eq_true h
  exact ⟨(n - 1).toNat, by omega, by omega⟩

set_option maxRecDepth 100000 in
set_option maxHeartbeats 4000000 in
theorem depthOf_any (l : List Node) (n0 : Int) (o : Bool) (a : Option Addr) (c : Nat) (R : Nat → Prop) (w : World) (hlen : l.length ≤ 1048576) (h : NodeSlice o R w a l) :
    Calls Try.prog 28 #[.agg #[.slice a l.length c], .int .i64 n0] w fun e w' => e = .returned (.int .i64 (depthF l (l.length + 1) n0 0)) ∧ Mod (fun _ => False) w w' := by
  refine calls_sx Try.func28 rfl rfl (fun a h1 h2 h3 => ((Fr.nil h1 h2).arg (h3 1 _ rfl)).arg (h3 0 _ rfl)) ?_
  repeat (first | refine qan ?_ | refine qaj ?_ | refine qaf ?_ | refine qad ?_ | refine SX.block ?_ | (refine qal ?_; (refine qac (qag rfl) rfl ?_ ?_ ?_); rfl; rfl) | (refine l_box ?_; refine qaG ?_ ?_ rfl rfl (fun g => ?_); rfl; rfl))
  refine SX.loop3 (fun (d : Nat) (n : Int) (_ : Unit) => d ≤ l.length ∧ depthF l (l.length + 1) n0 0 = depthF l (l.length + 1 - d) n d) (fun d _ _ => l.length + 1 - d) (fun _ _ _ => [⟨g, [.slice a l.length c], 37⟩]) (fun _ _ _ => []) (fun _ _ _ => []) (fun d n _ => [(1, .int .i64 n), (2, .pointer (some ⟨g, 0, none⟩)), (5, .int .i64 (d : Nat))]) 0 n0 () ⟨by omega, rfl⟩ ?_ (fun _ hl => hl) ?_
  · (repeat (first | exact subF_nil _ | (refine subF_cons rfl ?_) | (refine subF_consv rfl (by rfl) ?_)))
  · rintro d n _ ⟨hd, he⟩
    have hf : d ≤ l.length := hd
    · by_cases h0 : n = 0
      · subst h0
        have hv := he.trans (depthF_zero hf)
        repeat (first | refine qan ?_ | refine qaj ?_ | refine qaf ?_ | refine qad ?_ | refine qas rfl ?_ | (refine qao ?_; (refine qac (qai rfl) rfl ?_ ?_ ?_); rfl; rfl) | (refine qal ?_; (refine qac (qag rfl) rfl ?_ ?_ ?_); rfl; rfl) | (refine l_neq ?_; (refine qac (OpW.neqF rfl rfl (by omega)) rfl ?_ ?_ ?_); rfl; rfl) | refine qaA ?_ | refine SX.exit ?_ | refine qaF ?_ | refine qaD ?_)
        refine qaz rfl rfl (fun w' hl => ⟨by rw [hv], hl.mod⟩)
      · cases hq : inB n 1 l.length
        · have hv := he.trans (depthF_out hf h0 hq)
          repeat (first | refine qan ?_ | refine qaj ?_ | refine qaf ?_ | refine qad ?_ | refine SX.block ?_ | refine qaC ?_ | refine qaq rfl ?_ | (refine qaS rfl rfl rfl ?_) | (refine qat ?_; (refine qac (qap rfl (fun w hl => isNode_any _ _ _ _ _)) rfl ?_ ?_ ?_); rfl; rfl) | (refine qau ?_; (refine qac (qam 0 rfl rfl rfl) rfl ?_ ?_ ?_); rfl; rfl) | (refine qao ?_; (refine qac (qai rfl) rfl ?_ ?_ ?_); rfl; rfl) | (refine qal ?_; (refine qac (qag rfl) rfl ?_ ?_ ?_); rfl; rfl) | (refine l_add ?_; (refine qac (OpW.succ rfl rfl (by omega)) rfl ?_ ?_ ?_); rfl; rfl) | (refine l_neq ?_; (refine qac (OpW.neqT rfl rfl (by omega)) rfl ?_ ?_ ?_); rfl; rfl) | (refine qaT ?_; (refine qac (OpW.not rfl) rfl ?_ ?_ ?_); rfl; rfl) | (refine qaE ?_; (refine qac (qav rfl rfl rfl) rfl ?_ ?_ ?_); rfl; rfl) | (rw [hq]) | refine qaA ?_ | refine qax ?_ | refine qaH ?_)
          refine qaz rfl rfl (fun w' hl => ⟨by rw [hv]; first | done | rfl, hl.mod⟩)
        · by_cases hd2 : d + 1 ≤ l.length
          · obtain ⟨k, rfl, hlt⟩ := inB_node hq
            obtain ⟨b1, o1, x, r1, rfl, _, _, hxk, hr1, hl1, hc1⟩ := h.get hlt
            obtain ⟨ka, kc, ra, rc, rfl, hk1, ht1, _⟩ := hr1
            have hv := he.trans (depthF_up hf hxk.out)
            repeat (first | refine qan ?_ | refine qaj ?_ | refine qaf ?_ | refine qad ?_ | refine SX.block ?_ | refine qaC ?_ | refine qaq rfl ?_ | refine qas rfl ?_ | (refine qat ?_; (first | refine qac (qap rfl (fun w hl => isNode_any _ _ _ _ _)) rfl ?_ ?_ ?_ | refine qac (qap rfl (fun w hl => node_any _ _ _ _ k _ _ _ _ _ _ _ _ _ w (by omega) hlt (fun j v hv => hl.old (hc1 j v hv) (fun h => h)))) rfl ?_ ?_ ?_); rfl; rfl) | (refine l_field ?_; (refine qac (OpW.field rfl (nodeRow_a0 _ _ _ _ _ _ _ _ _)) rfl ?_ ?_ ?_); rfl; rfl) | (refine qau ?_; (first | refine qac (qaw 0 rfl rfl rfl) rfl ?_ ?_ ?_ | refine qac (qam 0 rfl rfl rfl) rfl ?_ ?_ ?_); rfl; rfl) | (refine qak ?_; (refine qac (qae rfl) rfl ?_ ?_ ?_); rfl; rfl) | (refine qao ?_; (refine qac (qai rfl) rfl ?_ ?_ ?_); rfl; rfl) | (refine qal ?_; (refine qac (qag rfl) rfl ?_ ?_ ?_); rfl; rfl) | (refine l_len ?_; (refine qac (OpW.len rfl) rfl ?_ ?_ ?_); rfl; rfl) | (refine l_add ?_; (refine qac (OpW.succ rfl rfl (by omega)) rfl ?_ ?_ ?_); rfl; rfl) | (refine l_gtr ?_; (refine qac (OpW.gtrF rfl rfl (by omega)) rfl ?_ ?_ ?_); rfl; rfl) | (refine l_neq ?_; (refine qac (OpW.neqT rfl rfl (by omega)) rfl ?_ ?_ ?_); rfl; rfl) | (refine qaT ?_; (refine qac (OpW.not rfl) rfl ?_ ?_ ?_); rfl; rfl) | (refine qaE ?_; (refine qac (qav rfl rfl rfl) rfl ?_ ?_ ?_); rfl; rfl) | (rw [hq]) | refine qar ?_)
            refine SQ.round3 (d + 1) x.up () ⟨by omega, hv⟩ (by omega) ?_ (fun _ hl => hl)
            (repeat (first | exact subF_nil _ | (refine subF_cons rfl ?_) | (refine subF_consv rfl (by rfl) ?_)))
          · have hv := he.trans (depthF_end (d := d) (n := n) hf (by omega) h0)
            repeat (first | refine qan ?_ | refine qaj ?_ | refine qaf ?_ | refine qad ?_ | refine SX.block ?_ | refine qaC ?_ | refine qaq rfl ?_ | (refine qat ?_; (refine qac (qap rfl (fun w hl => isNode_any _ _ _ _ _)) rfl ?_ ?_ ?_); rfl; rfl) | (refine qau ?_; (first | refine qac (qaw 0 rfl rfl rfl) rfl ?_ ?_ ?_ | refine qac (qam 0 rfl rfl rfl) rfl ?_ ?_ ?_); rfl; rfl) | (refine qak ?_; (refine qac (qae rfl) rfl ?_ ?_ ?_); rfl; rfl) | (refine qao ?_; (refine qac (qai rfl) rfl ?_ ?_ ?_); rfl; rfl) | (refine qal ?_; (refine qac (qag rfl) rfl ?_ ?_ ?_); rfl; rfl) | (refine l_len ?_; (refine qac (OpW.len rfl) rfl ?_ ?_ ?_); rfl; rfl) | (refine l_add ?_; (refine qac (OpW.succ rfl rfl (by omega)) rfl ?_ ?_ ?_); rfl; rfl) | (refine l_gtr ?_; (refine qac (OpW.gtrT rfl rfl (by omega)) rfl ?_ ?_ ?_); rfl; rfl) | (refine l_neq ?_; (refine qac (OpW.neqT rfl rfl (by omega)) rfl ?_ ?_ ?_); rfl; rfl) | (refine qaT ?_; (refine qac (OpW.not rfl) rfl ?_ ?_ ?_); rfl; rfl) | (refine qaE ?_; (refine qac (qav rfl rfl rfl) rfl ?_ ?_ ?_); rfl; rfl) | (rw [hq]) | refine qaA ?_ | refine qax ?_ | refine qaH ?_)
            refine qaz rfl rfl (fun w' hl => ⟨by rw [hv]; first | done | rfl, hl.mod⟩)

set_option maxRecDepth 100000 in
set_option maxHeartbeats 4000000 in
theorem sdepthOf_any (l : List Node) (n0 : Int) (o : Bool) (a : Option Addr) (c : Nat) (R : Nat → Prop) (w : World) (hlen : l.length ≤ 1048576) (h : NodeSlice o R w a l) :
    Calls Try.prog 85 #[.agg #[.slice a l.length c], .int .i64 n0] w fun e w' => e = .returned (.int .i64 (depthF l (l.length + 1) n0 0)) ∧ Mod (fun _ => False) w w' := by
  refine calls_sx Try.func85 rfl rfl (fun a h1 h2 h3 => ((Fr.nil h1 h2).arg (h3 1 _ rfl)).arg (h3 0 _ rfl)) ?_
  repeat (first | refine qan ?_ | refine qaj ?_ | refine qaf ?_ | refine qad ?_ | refine SX.block ?_ | (refine qal ?_; (refine qac (qag rfl) rfl ?_ ?_ ?_); rfl; rfl) | (refine l_box ?_; refine qaG ?_ ?_ rfl rfl (fun g => ?_); rfl; rfl))
  refine SX.loop3 (fun (d : Nat) (n : Int) (_ : Unit) => d ≤ l.length + 1 ∧ depthF l (l.length + 1) n0 0 = depthF l (l.length + 1 - d) n d) (fun d _ _ => l.length + 1 - d) (fun _ _ _ => [⟨g, [.slice a l.length c], 37⟩]) (fun _ _ _ => []) (fun _ _ _ => []) (fun d n _ => [(1, .int .i64 n), (2, .pointer (some ⟨g, 0, none⟩)), (5, .int .i64 (d : Nat))]) 0 n0 () ⟨by omega, rfl⟩ ?_ (fun _ hl => hl) ?_
  · (repeat (first | exact subF_nil _ | (refine subF_cons rfl ?_) | (refine subF_consv rfl (by rfl) ?_)))
  · rintro d n _ ⟨hd, he⟩
    · by_cases hf : d ≤ l.length
      · by_cases h0 : n = 0
        · subst h0
          have hv := he.trans (depthF_zero hf)
          repeat (first | refine qan ?_ | refine qaj ?_ | refine qaf ?_ | refine qad ?_ | refine SX.block ?_ | refine qaC ?_ | refine qaq rfl ?_ | (refine qau ?_; (refine qac (qaw 0 rfl rfl rfl) rfl ?_ ?_ ?_); rfl; rfl) | (refine qak ?_; (refine qac (qae rfl) rfl ?_ ?_ ?_); rfl; rfl) | (refine qao ?_; (refine qac (qai rfl) rfl ?_ ?_ ?_); rfl; rfl) | (refine qal ?_; (refine qac (qag rfl) rfl ?_ ?_ ?_); rfl; rfl) | (refine l_len ?_; (refine qac (OpW.len rfl) rfl ?_ ?_ ?_); rfl; rfl) | (refine l_eql ?_; (refine qac (qaQ rfl rfl (by omega)) rfl ?_ ?_ ?_); rfl; rfl) | (refine l_leq ?_; (refine qac (OpW.leqT rfl rfl (by omega)) rfl ?_ ?_ ?_); rfl; rfl) | refine qaA ?_ | refine qax ?_ | refine qaH ?_)
          refine qaz rfl rfl (fun w' hl => ⟨by rw [hv], hl.mod⟩)
        · cases hq : inB n 1 l.length
          · have hv := he.trans (depthF_out hf h0 hq)
            repeat (first | refine qan ?_ | refine qaj ?_ | refine qaf ?_ | refine qad ?_ | refine SX.block ?_ | refine qaC ?_ | refine qaq rfl ?_ | refine qas rfl ?_ | (refine qat ?_; (refine qac (qap rfl (fun w hl => sisNode_any _ _ _ _ _)) rfl ?_ ?_ ?_); rfl; rfl) | (refine qau ?_; (first | refine qac (qaw 0 rfl rfl rfl) rfl ?_ ?_ ?_ | refine qac (qam 0 rfl rfl rfl) rfl ?_ ?_ ?_); rfl; rfl) | (refine qak ?_; (refine qac (qae rfl) rfl ?_ ?_ ?_); rfl; rfl) | (refine qao ?_; (refine qac (qai rfl) rfl ?_ ?_ ?_); rfl; rfl) | (refine qal ?_; (refine qac (qag rfl) rfl ?_ ?_ ?_); rfl; rfl) | (refine l_len ?_; (refine qac (OpW.len rfl) rfl ?_ ?_ ?_); rfl; rfl) | (refine l_eql ?_; (refine qac (qaP rfl rfl (by omega)) rfl ?_ ?_ ?_); rfl; rfl) | (refine l_leq ?_; (refine qac (OpW.leqT rfl rfl (by omega)) rfl ?_ ?_ ?_); rfl; rfl) | (refine qaT ?_; (refine qac (OpW.not rfl) rfl ?_ ?_ ?_); rfl; rfl) | (rw [hq]) | refine qaA ?_ | refine qax ?_ | refine qaH ?_)
            refine qaz rfl rfl (fun w' hl => ⟨by rw [hv]; first | done | rfl, hl.mod⟩)
          · obtain ⟨k, rfl, hlt⟩ := inB_node hq
            obtain ⟨b1, o1, x, r1, rfl, _, _, hxk, hr1, hl1, hc1⟩ := h.get hlt
            obtain ⟨ka, kc, ra, rc, rfl, hk1, ht1, _⟩ := hr1
            have hv := he.trans (depthF_up hf hxk.out)
            repeat (first | refine qan ?_ | refine qaj ?_ | refine qaf ?_ | refine qad ?_ | refine SX.block ?_ | refine qaC ?_ | refine qaq rfl ?_ | refine qas rfl ?_ | (refine qat ?_; (first | refine qac (qap rfl (fun w hl => sisNode_any _ _ _ _ _)) rfl ?_ ?_ ?_ | refine qac (qap rfl (fun w hl => snode_any _ _ _ _ k _ _ _ _ _ _ _ _ _ w (by omega) hlt (fun j v hv => hl.old (hc1 j v hv) (fun h => h)))) rfl ?_ ?_ ?_); rfl; rfl) | (refine l_field ?_; (refine qac (OpW.field rfl (nodeRow_a0 _ _ _ _ _ _ _ _ _)) rfl ?_ ?_ ?_); rfl; rfl) | (refine qau ?_; (first | refine qac (qaw 0 rfl rfl rfl) rfl ?_ ?_ ?_ | refine qac (qam 0 rfl rfl rfl) rfl ?_ ?_ ?_); rfl; rfl) | (refine qak ?_; (refine qac (qae rfl) rfl ?_ ?_ ?_); rfl; rfl) | (refine qao ?_; (refine qac (qai rfl) rfl ?_ ?_ ?_); rfl; rfl) | (refine qal ?_; (refine qac (qag rfl) rfl ?_ ?_ ?_); rfl; rfl) | (refine l_len ?_; (refine qac (OpW.len rfl) rfl ?_ ?_ ?_); rfl; rfl) | (refine l_add ?_; (refine qac (OpW.succ rfl rfl (by omega)) rfl ?_ ?_ ?_); rfl; rfl) | (refine l_eql ?_; (refine qac (qaP rfl rfl (by omega)) rfl ?_ ?_ ?_); rfl; rfl) | (refine l_leq ?_; (refine qac (OpW.leqT rfl rfl (by omega)) rfl ?_ ?_ ?_); rfl; rfl) | (refine qaT ?_; (refine qac (OpW.not rfl) rfl ?_ ?_ ?_); rfl; rfl) | (rw [hq]) | refine qar ?_)
            refine SQ.round3 (d + 1) x.up () ⟨by omega, hv⟩ (by omega) ?_ (fun _ hl => hl)
            (repeat (first | exact subF_nil _ | (refine subF_cons rfl ?_) | (refine subF_consv rfl (by rfl) ?_)))
      · have hv := he.trans (depthF_over (n := n) (by omega))
        repeat (first | refine qan ?_ | refine qaj ?_ | refine qaf ?_ | refine qad ?_ | refine qas rfl ?_ | (refine qau ?_; (refine qac (qaw 0 rfl rfl rfl) rfl ?_ ?_ ?_); rfl; rfl) | (refine qak ?_; (refine qac (qae rfl) rfl ?_ ?_ ?_); rfl; rfl) | (refine qao ?_; (refine qac (qai rfl) rfl ?_ ?_ ?_); rfl; rfl) | (refine qal ?_; (refine qac (qag rfl) rfl ?_ ?_ ?_); rfl; rfl) | (refine l_len ?_; (refine qac (OpW.len rfl) rfl ?_ ?_ ?_); rfl; rfl) | (refine l_leq ?_; (refine qac (OpW.leqF rfl rfl (by omega)) rfl ?_ ?_ ?_); rfl; rfl) | refine qaA ?_ | refine SX.exit ?_ | refine qaF ?_ | refine qaD ?_)
        refine qaz rfl rfl (fun w' hl => ⟨by rw [hv]; first | done | rfl, hl.mod⟩)

end Go.Proofs.Ythffgbhphjkdeaa
