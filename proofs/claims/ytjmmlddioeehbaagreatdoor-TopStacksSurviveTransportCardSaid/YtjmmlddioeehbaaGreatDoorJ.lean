/- Facts of the whole program: what it may enter, what is lifted, how it is made. -/
import Derived.Test.YtjmmlddioeehbaaGreatDoorRows
import Derived.JoinedCond
import Derived.SevenTiedAt
import Derived.ProofKit
namespace Go.Proofs.YtjmmlddioeehbaaGreatDoor
open Go Go.RowKit Go.WideShapes Go.ChangeShapes Go.ChangeAt
theorem jBand {a b : Bool} (h : a = true) (k : b = true) : (a && b) = true := by rw [h, k]; rfl
theorem jMaps : mapsRowed Tryz.prog = true := by kernel_rfl
theorem jHeard : Tryz.prog.stopsHeard = true := by kernel_rfl
theorem jLooks : true = Tryz.prog.looks [] := by kernel_rfl
theorem jMain : Tryz.prog.mainIs = some (true, "c6a22df27b8d3f3abdaab499b33662b898e0514b434b8bac1159bb451f6ebd27".toList) := by kernel_rfl
theorem jMayEnter : Tryz.prog.mayEnter = true := by kernel_rfl
theorem jLifted : (Rows.topStacksSurviveTransportRow.lifted == Tryz.prog.liftsFinal) = true := by kernel_rfl
theorem jMake : (Tryz.prog.make == some Rows.topStacksSurviveTransportRow.make) = true := by kernel_rfl
end Go.Proofs.YtjmmlddioeehbaaGreatDoor
