/- A part of the proof. -/
import Derived.Test.YtjenbilhieomoaaDoorRw
import Derived.Test.YtjenbilhieomoaaDoorFE
set_option linter.all false
namespace Go.Proofs.YtjenbilhieomoaaDoor
open Go.ChangeShapes Go.WideShapes Go.ChangeAt Go.RowKit Go.Lv
theorem fTake : (wordsSigns Tryd.prog.initOrder.toList).take 3 = ["harness".toList, "77fbf97f8dcd6777025d1166debc5f45b1d8c08e7b13a151211c56bedb9783ca".toList, "cut".toList] := by kernel_rfl
theorem fWords : ∃ r, behindMainWord (wordsSigns Tryd.prog.initOrder.toList) = "cut".toList :: r := (words_cut fTake (by decide +kernel)).1
theorem fMain : Tryd.prog.mainIs = some (true, "77fbf97f8dcd6777025d1166debc5f45b1d8c08e7b13a151211c56bedb9783ca".toList) := (words_cut fTake (by decide +kernel)).2
theorem fLays : Tryd.prog.laysLater = false := by kernel_rfl
theorem fRefl : Tryd.prog.bearsReflect = false := by kernel_rfl
theorem fDoor : Tryd.prog.doorFits [] = true := by kernel_rfl
theorem fLooks : false = Tryd.prog.looks [] := by kernel_rfl
theorem fHeard : Tryd.prog.stopsHeard = true := by kernel_rfl
theorem fPlain : Tryd.prog.plainKeys = true := by kernel_rfl
theorem fRowed : mapsRowed Tryd.prog = true := by kernel_rfl
theorem fStops : (Tryd.prog.stops == []) = true := by kernel_rfl
theorem fKnobs : (Tryd.prog.stopKnobs == []) = true := by kernel_rfl
end Go.Proofs.YtjenbilhieomoaaDoor
