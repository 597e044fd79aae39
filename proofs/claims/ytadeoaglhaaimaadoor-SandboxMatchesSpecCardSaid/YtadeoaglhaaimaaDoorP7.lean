/- The plain laws: behind the last operation. -/
import Derived.Test.YtadeoaglhaaimaaDoorP6
namespace Go.Proofs.YtadeoaglhaaimaaDoor
open Go.PW Go

theorem run_end (a : SInputsOpsOutput) (t : SFiles) (m i : Nat) (w : List (List UInt8)) (h : a.Ops.length ≤ i) : sandbox_Run_l1 200 a t (m + 1) w (i : Int) = some (w, ⟨0, 0⟩) := by
  rw [sandbox_Run_l1, if_neg (nlt_dec (by omega))]

end Go.Proofs.YtadeoaglhaaimaaDoor
