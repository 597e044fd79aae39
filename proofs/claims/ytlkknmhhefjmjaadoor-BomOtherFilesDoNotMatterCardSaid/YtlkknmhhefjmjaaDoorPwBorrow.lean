/-
  PwBorrow: a call that only reads a row of the caller's and hands back a row of its own, beside numbers: the caller's row stays the caller's.
-/
import Derived.Test.YtlkknmhhefjmjaaDoorPwEat
namespace Go.PW
open Go.RowKit
variable {P : Program} {f : FuncId}
def flat0 : PV → Bool
  | .int .. | .bool _ | .str _ | .nils | .pnil | .own 70000 0 => true
  | _ => false
def flat1 : PV → Bool
  | .agg cs => cs.all flat0
  | p => flat0 p
section
variable {C C' : Ctx}
end
section
variable {d nm v : Nat} {elem sz elem2 sz2 : Nat} {es es2 : List (List PV)} {nw : Bool} {sl : List (Nat × PV)} {m : List (Nat × Ent)} {g : Nat} {r : List LOper} {acc : List Log} {K : List Log → St → Prop}
end
end Go.PW
