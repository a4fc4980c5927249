/-
  PROVED: nothing by itself: the program's structs as plain Lean structures, and their cells in memory.
-/
import Derived.Test.YtpmbobopkfacmaaRep
namespace Go.Proofs.Ytpmbobopkfacmaa

structure Space where
  mode : Int
  n : Int
  deriving DecidableEq, Inhabited
def Space.cells (s : Space) : List Value := [.int .i64 s.mode, .int .i64 s.n]

structure Asked where
  node : Int
  wide : Space
  high : Space
  rtl : Bool
  deriving DecidableEq, Inhabited
def Asked.cells (x : Asked) : List Value := [.int .i64 x.node, .int .i64 x.wide.mode, .int .i64 x.wide.n, .int .i64 x.high.mode, .int .i64 x.high.n, .bool x.rtl]

end Go.Proofs.Ytpmbobopkfacmaa
