/-
  PROVED: contracts of the library's functions at this seat's dump, laid by the kit's tools (lay-shelf, lay-plain). No condition but what each says.
-/
import Derived.Ground.GgsProg
import Derived.Shelf.GgSortFunc.Insertion
import Derived.Shelf.GgSortFunc.Tiny
import Derived.Shelf.GgSortFunc.Compose
import Derived.Ground.GgtProg
import Derived.Shelf.GgSortMore.Stable
import Derived.Test.YthffgbhphjkdeaaProg
namespace Go.Proofs
open Go.Shelf
def Try.laysGg26_ren : Go.Shelf.Ren := ⟨fun | 26 => 169 | n => n, fun | 44 => 195 | 3 => 3 | 0 => 0 | 4 => 4 | 26 => 155 | 37 => 191 | n => n, fun | n => n⟩
theorem Try.laysGg26 : Go.Proofs.LaysGg.n26 Try.prog Try.laysGg26_ren := {
  mixed := by kernel_rfl
  f26 := Try.func169.trans (congrArg some (by kernel_rfl))
  t0 := Try.underlying0
  a0 := Try.isAgg0
  z0 := Try.sizeOf0
  v0 := Try.zeroValue0
  i0 := by kernel_rfl
  t3 := Try.underlying3
  a3 := Try.isAgg3
  z3 := Try.sizeOf3
  v3 := Try.zeroValue3
  i3 := by kernel_rfl
  t4 := Try.underlying4
  a4 := Try.isAgg4
  z4 := Try.sizeOf4
  v4 := Try.zeroValue4
  i4 := by kernel_rfl
  t26 := Try.underlying155
  a26 := Try.isAgg155
  z26 := Try.sizeOf155
  v26 := Try.zeroValue155
  i26 := by kernel_rfl
  t37 := Try.underlying191
  a37 := Try.isAgg191
  z37 := Try.sizeOf191
  v37 := Try.zeroValue191
  i37 := by kernel_rfl
  t44 := Try.underlying195
  a44 := Try.isAgg195
  z44 := Try.sizeOf195
  v44 := Try.zeroValue195
  i44 := by kernel_rfl }
open Go.RowKit Go.Lib Go.Sort in
theorem Try.insertionSort_func_one {α : Type} [Inhabited α] (enc : α → Value) (lt : α → α → Bool) (g : Nat) (lb : Array Value) (sf : Nat) (sb : Array Value) (blk off a b : Nat) (d : Array α) (w : World) (eg : ∀ args w, (callFunc g args).run Try.prog w = .ok (.enter g args) w) (hless : LessReads Try.prog g lb enc lt blk off d.size w) (hswap : SwapSwaps Try.prog sf sb enc blk off d.size) (hH : Holds enc w blk off d) (hblk : blk < w.heap.size) (hab : a ≤ b) (hb : b ≤ d.size) (hsz : d.size < 4611686018427387904) :
    Calls Try.prog 169 #[.agg #[.func (.func g) #[] lb, .func (.func sf) #[] sb], .int .i64 a, .int .i64 b] w fun e w' =>
      e = .returned (.tuple #[]) ∧ ∃ n, w' = putRow enc (Sort.ahead (w.alloc (.cells #[.func (.func g) #[] lb, .func (.func sf) #[] sb] 195)) n) blk off (Sort.insertionSort lt d a b) := Any.insertionSort_func_one Try.laysGg26 enc lt g lb sf sb blk off a b d w eg hless hswap hH hblk hab hb hsz
open Go.RowKit Go.Lib Go.Sort in
theorem Try.insertionSort_func_none (lf : Fn) (la lb : Array Value) (f : Nat) (sb : Array Value) (a b : Nat) (h : b ≤ a + 1) (ha : a < 4611686018427387904) (w : World) :
    Calls Try.prog 169 #[.agg #[.func lf la lb, .func (.func f) #[] sb], .int .i64 a, .int .i64 b] w fun e w' => e = .returned (.tuple #[]) ∧ w' = w.alloc (.cells #[.func lf la lb, .func (.func f) #[] sb] 195) := Any.insertionSort_func_none Try.laysGg26 lf la lb f sb a b h ha w
open Go.RowKit Go.Lib Go.Sort in
theorem Try.insertionSort_func_w {α : Type} [Inhabited α] (enc : α → Value) (lt : α → α → Bool) (g : Nat) (lb : Array Value) (sf : Nat) (sb : Array Value) (blk off a b : Nat) (d : Array α) (w : World) (eg : ∀ args w, (callFunc g args).run Try.prog w = .ok (.enter g args) w) (hless : LessReads Try.prog g lb enc lt blk off d.size w) (hswap : SwapSwaps Try.prog sf sb enc blk off d.size) (hH : Holds enc w blk off d) (hblk : blk < w.heap.size) (hab : a ≤ b) (hb : b ≤ d.size) (hsz : d.size < 4611686018427387904) :
    Calls Try.prog 169 #[.agg #[.func (.func g) #[] lb, .func (.func sf) #[] sb], .int .i64 a, .int .i64 b] w fun e w' => e = .returned (.tuple #[]) ∧ ∃ n os, w' = sortWorld enc w blk off n (Sort.insertionSort lt d a b) os := Any.insertionSort_func_w Try.laysGg26 enc lt g lb sf sb blk off a b d w eg hless hswap hH hblk hab hb hsz
def Try.laysGt15_ren : Go.Shelf.Ren := ⟨fun | 15 => 145 | 29 => 169 | 30 => 170 | 42 => 180 | 49 => 183 | n => n, fun | 42 => 195 | 3 => 3 | 0 => 0 | 4 => 4 | 26 => 155 | 38 => 191 | 47 => 205 | n => n, fun | n => n⟩
theorem Try.laysGt15 : Go.Proofs.LaysGt.n15 Try.prog Try.laysGt15_ren := {
  mixed := by kernel_rfl
  f15 := Try.func145.trans (congrArg some (by kernel_rfl))
  f29 := Try.func169.trans (congrArg some (by kernel_rfl))
  f30 := Try.func170.trans (congrArg some (by kernel_rfl))
  f42 := Try.func180.trans (congrArg some (by kernel_rfl))
  f49 := Try.func183.trans (congrArg some (by kernel_rfl))
  t0 := Try.underlying0
  a0 := Try.isAgg0
  z0 := Try.sizeOf0
  v0 := Try.zeroValue0
  i0 := by kernel_rfl
  t3 := Try.underlying3
  a3 := Try.isAgg3
  z3 := Try.sizeOf3
  v3 := Try.zeroValue3
  i3 := by kernel_rfl
  t4 := Try.underlying4
  a4 := Try.isAgg4
  z4 := Try.sizeOf4
  v4 := Try.zeroValue4
  i4 := by kernel_rfl
  t26 := Try.underlying155
  a26 := Try.isAgg155
  z26 := Try.sizeOf155
  v26 := Try.zeroValue155
  i26 := by kernel_rfl
  t38 := Try.underlying191
  a38 := Try.isAgg191
  z38 := Try.sizeOf191
  v38 := Try.zeroValue191
  i38 := by kernel_rfl
  t42 := Try.underlying195
  a42 := Try.isAgg195
  z42 := Try.sizeOf195
  v42 := Try.zeroValue195
  i42 := by kernel_rfl
  t47 := Try.underlying205
  a47 := Try.isAgg205
  z47 := Try.sizeOf205
  v47 := Try.zeroValue205
  i47 := by kernel_rfl }
open Go.RowKit Go.Lib Go.Sort in
theorem Try.stable_func_under20 {α : Type} [Inhabited α] (enc : α → Value) (lt : α → α → Bool) (g : Nat) (lb : Array Value) (sf : Nat) (sb : Array Value) (blk off : Nat) (d : Array α) (W : World) (eg : ∀ args w, (callFunc g args).run Try.prog w = .ok (.enter g args) w) (hless : LessReads Try.prog g lb enc lt blk off d.size W) (hswap : SwapSwaps Try.prog sf sb enc blk off d.size) (hH : Holds enc W blk off d) (hblk : blk < W.heap.size) (h20 : d.size < 20) :
    Calls Try.prog 145 #[.agg #[.func (.func g) #[] lb, .func (.func sf) #[] sb], .int .i64 d.size] W fun e w' => e = .returned (.tuple #[]) ∧ ∃ n os, w' = sortWorld enc W blk off n (Sort.insertionSort lt d 0 d.size) os := Any.stable_func_under20 Try.laysGt15 enc lt g lb sf sb blk off d W eg hless hswap hH hblk h20
open Go.RowKit Go.Lib Go.Sort in
theorem Try.stable_func_at20 {α : Type} [Inhabited α] (enc : α → Value) (lt : α → α → Bool) (g : Nat) (lb : Array Value) (sf : Nat) (sb : Array Value) (blk off : Nat) (d : Array α) (W : World) (eg : ∀ args w, (callFunc g args).run Try.prog w = .ok (.enter g args) w) (hless : LessReads Try.prog g lb enc lt blk off d.size W) (hswap : SwapSwaps Try.prog sf sb enc blk off d.size) (hH : Holds enc W blk off d) (hblk : blk < W.heap.size) (h20 : d.size = 20) :
    Calls Try.prog 145 #[.agg #[.func (.func g) #[] lb, .func (.func sf) #[] sb], .int .i64 d.size] W fun e w' => e = .returned (.tuple #[]) ∧ ∃ n os, w' = sortWorld enc W blk off n (Sort.insertionSort lt d 0 d.size) os := Any.stable_func_at20 Try.laysGt15 enc lt g lb sf sb blk off d W eg hless hswap hH hblk h20
open Go.RowKit Go.Lib Go.Sort in
theorem Try.stable_func_small {α : Type} [Inhabited α] (enc : α → Value) (lt : α → α → Bool) (g : Nat) (lb : Array Value) (sf : Nat) (sb : Array Value) (blk off : Nat) (d : Array α) (W : World) (eg : ∀ args w, (callFunc g args).run Try.prog w = .ok (.enter g args) w) (hless : LessReads Try.prog g lb enc lt blk off d.size W) (hswap : SwapSwaps Try.prog sf sb enc blk off d.size) (hH : Holds enc W blk off d) (hblk : blk < W.heap.size) (h20 : d.size ≤ 20) :
    Calls Try.prog 145 #[.agg #[.func (.func g) #[] lb, .func (.func sf) #[] sb], .int .i64 d.size] W fun e w' => e = .returned (.tuple #[]) ∧ ∃ n os, w' = sortWorld enc W blk off n (Sort.insertionSort lt d 0 d.size) os := Any.stable_func_small Try.laysGt15 enc lt g lb sf sb blk off d W eg hless hswap hH hblk h20
open Go.RowKit Go.Lib Go.Sort in
theorem Try.stable_func_tiny {α : Type} [Inhabited α] (lf : Fn) (la lb : Array Value) (f : Nat) (sb : Array Value) (n : Nat) (hn : n ≤ 1) (W : World) :
    Calls Try.prog 145 #[.agg #[.func lf la lb, .func (.func f) #[] sb], .int .i64 n] W fun e w' => e = .returned (.tuple #[]) ∧ ∃ os, w' = grow W os := Any.stable_func_tiny Try.laysGt15 lf la lb f sb n hn W
def Try.laysGt8_ren : Go.Shelf.Ren := ⟨fun | 8 => 128 | 13 => 143 | 14 => 144 | 16 => 146 | 15 => 145 | 29 => 169 | 30 => 170 | 42 => 180 | 49 => 183 | n => n, fun | 20 => 20 | 26 => 155 | 36 => 189 | 0 => 0 | 38 => 191 | 42 => 195 | 3 => 3 | 4 => 4 | 47 => 205 | 17 => 17 | 33 => 186 | 34 => 187 | 89 => 237 | 12 => 12 | 56 => 229 | 82 => 230 | 5 => 5 | 83 => 231 | 84 => 232 | 85 => 233 | 86 => 234 | 87 => 235 | n => n, fun | n => n⟩
theorem Try.laysGt8 : Go.Proofs.LaysGt.n8 Try.prog Try.laysGt8_ren := {
  mixed := by kernel_rfl
  f8 := Try.func128.trans (congrArg some (by kernel_rfl))
  f13 := Try.func143.trans (congrArg some (by kernel_rfl))
  f14 := Try.func144.trans (congrArg some (by kernel_rfl))
  f15 := Try.func145.trans (congrArg some (by kernel_rfl))
  f16 := Try.func146.trans (congrArg some (by kernel_rfl))
  f29 := Try.func169.trans (congrArg some (by kernel_rfl))
  f30 := Try.func170.trans (congrArg some (by kernel_rfl))
  f42 := Try.func180.trans (congrArg some (by kernel_rfl))
  f49 := Try.func183.trans (congrArg some (by kernel_rfl))
  t0 := Try.underlying0
  a0 := Try.isAgg0
  z0 := Try.sizeOf0
  v0 := Try.zeroValue0
  i0 := by kernel_rfl
  t3 := Try.underlying3
  a3 := Try.isAgg3
  z3 := Try.sizeOf3
  v3 := Try.zeroValue3
  i3 := by kernel_rfl
  t4 := Try.underlying4
  a4 := Try.isAgg4
  z4 := Try.sizeOf4
  v4 := Try.zeroValue4
  i4 := by kernel_rfl
  t5 := Try.underlying5
  a5 := Try.isAgg5
  z5 := Try.sizeOf5
  v5 := Try.zeroValue5
  i5 := by kernel_rfl
  t12 := Try.underlying12
  a12 := Try.isAgg12
  z12 := Try.sizeOf12
  v12 := Try.zeroValue12
  i12 := by kernel_rfl
  t17 := Try.underlying17
  a17 := Try.isAgg17
  z17 := Try.sizeOf17
  v17 := Try.zeroValue17
  i17 := by kernel_rfl
  t20 := Try.underlying20
  a20 := Try.isAgg20
  z20 := Try.sizeOf20
  v20 := Try.zeroValue20
  i20 := by kernel_rfl
  t26 := Try.underlying155
  a26 := Try.isAgg155
  z26 := Try.sizeOf155
  v26 := Try.zeroValue155
  i26 := by kernel_rfl
  t33 := Try.underlying186
  a33 := Try.isAgg186
  z33 := Try.sizeOf186
  v33 := Try.zeroValue186
  i33 := by kernel_rfl
  t34 := Try.underlying187
  a34 := Try.isAgg187
  z34 := Try.sizeOf187
  v34 := Try.zeroValue187
  i34 := by kernel_rfl
  t36 := Try.underlying189
  a36 := Try.isAgg189
  z36 := Try.sizeOf189
  v36 := Try.zeroValue189
  i36 := by kernel_rfl
  t38 := Try.underlying191
  a38 := Try.isAgg191
  z38 := Try.sizeOf191
  v38 := Try.zeroValue191
  i38 := by kernel_rfl
  t42 := Try.underlying195
  a42 := Try.isAgg195
  z42 := Try.sizeOf195
  v42 := Try.zeroValue195
  i42 := by kernel_rfl
  t47 := Try.underlying205
  a47 := Try.isAgg205
  z47 := Try.sizeOf205
  v47 := Try.zeroValue205
  i47 := by kernel_rfl
  t56 := Try.underlying229
  a56 := Try.isAgg229
  z56 := Try.sizeOf229
  v56 := Try.zeroValue229
  i56 := by kernel_rfl
  t82 := Try.underlying230
  a82 := Try.isAgg230
  z82 := Try.sizeOf230
  v82 := Try.zeroValue230
  i82 := by kernel_rfl
  t83 := Try.underlying231
  a83 := Try.isAgg231
  z83 := Try.sizeOf231
  v83 := Try.zeroValue231
  i83 := by kernel_rfl
  t84 := Try.underlying232
  a84 := Try.isAgg232
  z84 := Try.sizeOf232
  v84 := Try.zeroValue232
  i84 := by kernel_rfl
  t85 := Try.underlying233
  a85 := Try.isAgg233
  z85 := Try.sizeOf233
  v85 := Try.zeroValue233
  i85 := by kernel_rfl
  t86 := Try.underlying234
  a86 := Try.isAgg234
  z86 := Try.sizeOf234
  v86 := Try.zeroValue234
  i86 := by kernel_rfl
  t87 := Try.underlying235
  a87 := Try.isAgg235
  z87 := Try.sizeOf235
  v87 := Try.zeroValue235
  i87 := by kernel_rfl
  t89 := Try.underlying237
  a89 := Try.isAgg237
  z89 := Try.sizeOf237
  v89 := Try.zeroValue237
  i89 := by kernel_rfl }
end Go.Proofs
