/-
  PwSplit: what treepatch.ValidPath computes, in plain Lean; a range over an iterator that also writes one cell of its own.
-/
import Derived.Test.YtpcmhhbocifbcaaGreatDoorPwShelf
import Derived.Lib.Bytealg
import Derived.RangeFuncBox
namespace Go.PW
open Go.RowKit
variable {F : Fence} {n : Nat} {P : Program}
end Go.PW
