/- Facts of the whole program: what it may enter, what is lifted, how it is made. -/
import Derived.Test.YtfdfhpembpjglaaDoorRows
import Derived.JoinedCond
import Derived.SevenTiedAt
import Derived.ProofKit
namespace Go.Proofs.YtfdfhpembpjglaaDoor
open Go Go.RowKit Go.WideShapes Go.ChangeShapes Go.ChangeAt
theorem jBand {a b : Bool} (h : a = true) (k : b = true) : (a && b) = true := by rw [h, k]; rfl
theorem jMaps : mapsRowed Tryd.prog = true := by kernel_rfl
theorem jHeard : Tryd.prog.stopsHeard = true := by kernel_rfl
theorem jLooks : false = Tryd.prog.looks [] := by kernel_rfl
theorem jMain : Tryd.prog.mainIs = some (true, "4c6adae04fa1ff999f680f43bd3506f5edd29fe99ff98f1f866884eb90708e00".toList) := by kernel_rfl
theorem jMayEnter : Tryd.prog.mayEnter = true := by kernel_rfl
theorem jLifted : (Rows.rulesMatchSpecRow.lifted == Tryd.prog.liftsFinal) = true := by kernel_rfl
theorem jMake : (Tryd.prog.make == some Rows.rulesMatchSpecRow.make) = true := by kernel_rfl
end Go.Proofs.YtfdfhpembpjglaaDoor
