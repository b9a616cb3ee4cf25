/- A part of the proof. -/
import Derived.Test.YtkpeoplkldpmlaaDoorRw
import Derived.Test.YtkpeoplkldpmlaaDoorFE
set_option linter.all false
namespace Go.Proofs.YtkpeoplkldpmlaaDoor
open Go.ChangeShapes Go.WideShapes Go.ChangeAt Go.RowKit Go.Lv
theorem fTake : (wordsSigns Tryd.prog.initOrder.toList).take 3 = ["harness".toList, "530b832309f3b2e7f5e250f4f225ada94d81113330c8d916f60228bf50ddf04d".toList, "cut".toList] := by kernel_rfl
theorem fWords : ∃ r, behindMainWord (wordsSigns Tryd.prog.initOrder.toList) = "cut".toList :: r := (words_cut fTake (by decide +kernel)).1
theorem fMain : Tryd.prog.mainIs = some (true, "530b832309f3b2e7f5e250f4f225ada94d81113330c8d916f60228bf50ddf04d".toList) := (words_cut fTake (by decide +kernel)).2
theorem fLays : Tryd.prog.laysLater = false := by kernel_rfl
theorem fRefl : Tryd.prog.bearsReflect = false := by kernel_rfl
theorem fDoor : Tryd.prog.doorFits [] = true := by kernel_rfl
theorem fLooks : false = Tryd.prog.looks [] := by kernel_rfl
theorem fHeard : Tryd.prog.stopsHeard = true := by kernel_rfl
theorem fPlain : Tryd.prog.plainKeys = true := by kernel_rfl
theorem fRowed : mapsRowed Tryd.prog = true := by kernel_rfl
theorem fStops : (Tryd.prog.stops == []) = true := by kernel_rfl
theorem fKnobs : (Tryd.prog.stopKnobs == []) = true := by kernel_rfl
end Go.Proofs.YtkpeoplkldpmlaaDoor
