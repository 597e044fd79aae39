/- Facts of the whole program: what it may enter, what is lifted, how it is made. -/
import Derived.Test.YtlkknmhhefjmjaaGreatDoorRows
import Derived.JoinedCond
import Derived.SevenTiedAt
import Derived.ProofKit
namespace Go.Proofs.YtlkknmhhefjmjaaGreatDoor
open Go Go.RowKit Go.WideShapes Go.ChangeShapes Go.ChangeAt
theorem jBand {a b : Bool} (h : a = true) (k : b = true) : (a && b) = true := by rw [h, k]; rfl
theorem jMaps : mapsRowed Tryz.prog = true := by kernel_rfl
theorem jHeard : Tryz.prog.stopsHeard = true := by kernel_rfl
theorem jLooks : false = Tryz.prog.looks [] := by kernel_rfl
theorem jMain : Tryz.prog.mainIs = some (true, "e00f3b78e43f3b62d51efc46742f5d6362e6d1ed6f74802d23cea43cb2c3fa67".toList) := by kernel_rfl
theorem jMayEnter : Tryz.prog.mayEnter = true := by kernel_rfl
theorem jLifted : (Rows.actioncacheRunMatchesSpecRow.lifted == Tryz.prog.liftsFinal) = true := by kernel_rfl
theorem jMake : (Tryz.prog.make == some Rows.actioncacheRunMatchesSpecRow.make) = true := by kernel_rfl
end Go.Proofs.YtlkknmhhefjmjaaGreatDoor
