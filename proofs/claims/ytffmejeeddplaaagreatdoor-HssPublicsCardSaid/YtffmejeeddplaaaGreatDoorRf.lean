/- A part of the proof. -/
import Derived.Test.YtffmejeeddplaaaGreatDoorRw
import Derived.Test.YtffmejeeddplaaaGreatDoorFE
set_option linter.all false
namespace Go.Proofs.YtffmejeeddplaaaGreatDoor
open Go.ChangeShapes Go.WideShapes Go.ChangeAt Go.RowKit Go.Lv
theorem fTake : (wordsSigns Tryz.prog.initOrder.toList).take 3 = ["harness".toList, "747d82a0a5265232487af1ee6fa18fc74b5868772a687c7f83e4b145b463f99a".toList, "cut".toList] := by kernel_rfl
theorem fWords : ∃ r, behindMainWord (wordsSigns Tryz.prog.initOrder.toList) = "cut".toList :: r := (words_cut fTake (by decide +kernel)).1
theorem fMain : Tryz.prog.mainIs = some (true, "747d82a0a5265232487af1ee6fa18fc74b5868772a687c7f83e4b145b463f99a".toList) := (words_cut fTake (by decide +kernel)).2
theorem fLays : Tryz.prog.laysLater = false := by kernel_rfl
theorem fRefl : Tryz.prog.bearsReflect = false := by kernel_rfl
theorem fDoor : Tryz.prog.doorFits [] = true := by kernel_rfl
theorem fLooks : false = Tryz.prog.looks [] := by kernel_rfl
theorem fHeard : Tryz.prog.stopsHeard = true := by kernel_rfl
theorem fPlain : Tryz.prog.plainKeys = true := by kernel_rfl
theorem fRowed : mapsRowed Tryz.prog = true := by kernel_rfl
theorem fStops : (Tryz.prog.stops == []) = true := by kernel_rfl
theorem fKnobs : (Tryz.prog.stopKnobs == []) = true := by kernel_rfl
end Go.Proofs.YtffmejeeddplaaaGreatDoor
