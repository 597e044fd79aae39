/-
  PwShelf: contracts of the kit's shelf, as contracts of the evaluator.
-/
import Derived.Test.YtfdfhpembpjglaaDoorPwFam
import Derived.Lib.Bytealg
namespace Go.PW
open Go.RowKit
variable {P : Program} {f : FuncId}
theorem DVs.none {w : World} {I : Nat → Prop} {vs : List Value} (h : DVs w I vs []) : vs = [] := by cases h; rfl
end Go.PW
