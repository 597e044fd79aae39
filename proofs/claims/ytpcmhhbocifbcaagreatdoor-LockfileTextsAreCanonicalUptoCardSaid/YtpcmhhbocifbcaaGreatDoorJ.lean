/- Facts of the whole program: what it may enter, what is lifted, how it is made. -/
import Derived.Test.YtpcmhhbocifbcaaGreatDoorRows
import Derived.JoinedCond
import Derived.SevenTiedAt
import Derived.ProofKit
namespace Go.Proofs.YtpcmhhbocifbcaaGreatDoor
open Go Go.RowKit Go.WideShapes Go.ChangeShapes Go.ChangeAt
theorem jBand {a b : Bool} (h : a = true) (k : b = true) : (a && b) = true := by rw [h, k]; rfl
theorem jMaps : mapsRowed Tryz.prog = true := by kernel_rfl
theorem jHeard : Tryz.prog.stopsHeard = true := by kernel_rfl
theorem jLooks : true = Tryz.prog.looks [] := by kernel_rfl
theorem jMain : Tryz.prog.mainIs = some (true, "cc0c90b5fdc23d121c5431adac35ddd7de37a0056b3d5c13b3b37820f47944f3".toList) := by kernel_rfl
theorem jMayEnter : Tryz.prog.mayEnter = true := by kernel_rfl
theorem jLifted : (Rows.lockfileMatchesSpecRow.lifted == Tryz.prog.liftsFinal) = true := by kernel_rfl
theorem jMake : (Tryz.prog.make == some Rows.lockfileMatchesSpecRow.make) = true := by kernel_rfl
end Go.Proofs.YtpcmhhbocifbcaaGreatDoor
