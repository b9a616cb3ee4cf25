/- A part of the proof. -/
import Derived.Test.YtmpfooekljbhhaaDoorRw
import Derived.Test.YtmpfooekljbhhaaDoorFE
set_option linter.all false
namespace Go.Proofs.YtmpfooekljbhhaaDoor
open Go.ChangeShapes Go.WideShapes Go.ChangeAt Go.RowKit Go.Lv
theorem fTake : (wordsSigns Tryd.prog.initOrder.toList).take 3 = ["harness".toList, "20426d89e038f2697c7132effd71a1a2c8b1afb32b8c091dc9a35aa83bbc1426".toList, "cut".toList] := by kernel_rfl
theorem fWords : ∃ r, behindMainWord (wordsSigns Tryd.prog.initOrder.toList) = "cut".toList :: r := (words_cut fTake (by decide +kernel)).1
theorem fMain : Tryd.prog.mainIs = some (true, "20426d89e038f2697c7132effd71a1a2c8b1afb32b8c091dc9a35aa83bbc1426".toList) := (words_cut fTake (by decide +kernel)).2
theorem fLays : Tryd.prog.laysLater = false := by kernel_rfl
theorem fRefl : Tryd.prog.bearsReflect = false := by kernel_rfl
theorem fDoor : Tryd.prog.doorFits [] = true := by kernel_rfl
theorem fLooks : false = Tryd.prog.looks [] := by kernel_rfl
theorem fHeard : Tryd.prog.stopsHeard = true := by kernel_rfl
theorem fPlain : Tryd.prog.plainKeys = true := by kernel_rfl
theorem fRowed : mapsRowed Tryd.prog = true := by kernel_rfl
theorem fStops : (Tryd.prog.stops == []) = true := by kernel_rfl
theorem fKnobs : (Tryd.prog.stopKnobs == []) = true := by kernel_rfl
end Go.Proofs.YtmpfooekljbhhaaDoor
