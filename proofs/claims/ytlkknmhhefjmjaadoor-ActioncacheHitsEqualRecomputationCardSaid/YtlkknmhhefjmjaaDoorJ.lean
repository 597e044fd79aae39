/- Facts of the whole program: what it may enter, what is lifted, how it is made. -/
import Derived.Test.YtlkknmhhefjmjaaDoorRows
import Derived.JoinedCond
import Derived.SevenTiedAt
import Derived.ProofKit
namespace Go.Proofs.YtlkknmhhefjmjaaDoor
open Go Go.RowKit Go.WideShapes Go.ChangeShapes Go.ChangeAt
theorem jBand {a b : Bool} (h : a = true) (k : b = true) : (a && b) = true := by rw [h, k]; rfl
theorem jMaps : mapsRowed Tryd.prog = true := by kernel_rfl
theorem jHeard : Tryd.prog.stopsHeard = true := by kernel_rfl
theorem jLooks : false = Tryd.prog.looks [] := by kernel_rfl
theorem jMain : Tryd.prog.mainIs = some (true, "27a51ec012144873418275e0e4e6cec471bb16b3db4d9af00704d91acf900886".toList) := by kernel_rfl
theorem jMayEnter : Tryd.prog.mayEnter = true := by kernel_rfl
theorem jLifted : (Rows.bomMatchesSpecRow.lifted == Tryd.prog.liftsFinal) = true := by kernel_rfl
theorem jMake : (Tryd.prog.make == some Rows.bomMatchesSpecRow.make) = true := by kernel_rfl
end Go.Proofs.YtlkknmhhefjmjaaDoor
