/-
  PwEat: a call that is handed a row of the caller's and may keep it: behind it the row is no longer the caller's.
-/
import Derived.Test.YtpcmhhbocifbcaaGreatDoorPwSort
namespace Go.PW
open Go.RowKit
variable {P : Program} {f : FuncId}
theorem DVs.append {w : World} {I : Nat → Prop} {vs vs' : List Value} {ps ps' : List PV} (h : DVs w I vs ps) (h' : DVs w I vs' ps') : DVs w I (vs ++ vs') (ps ++ ps') := by
  induction h with
  | nil => exact h'
  | cons h t ih => exact .cons h ih
section
variable {d nm v : Nat} {elem : TypeId} {sz : Nat} {es : List (List PV)} {nw : Bool} {sl : List (Nat × PV)} {m : List (Nat × Ent)} {g : Nat} {r : List LOper} {acc : List Log} {K : List Log → St → Prop}
end
end Go.PW
