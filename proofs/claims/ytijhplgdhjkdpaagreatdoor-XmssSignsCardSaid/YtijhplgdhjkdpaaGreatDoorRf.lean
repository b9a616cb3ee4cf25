/- A part of the proof. -/
import Derived.Test.YtijhplgdhjkdpaaGreatDoorRw
import Derived.Test.YtijhplgdhjkdpaaGreatDoorFE
set_option linter.all false
namespace Go.Proofs.YtijhplgdhjkdpaaGreatDoor
open Go.ChangeShapes Go.WideShapes Go.ChangeAt Go.RowKit Go.Lv
theorem fTake : (wordsSigns Tryz.prog.initOrder.toList).take 3 = ["harness".toList, "10a09baddbfcce9bd8a70ca77ac331f43d72abb69a0ea6a57f5a7428d7e74546".toList, "cut".toList] := by kernel_rfl
theorem fWords : ∃ r, behindMainWord (wordsSigns Tryz.prog.initOrder.toList) = "cut".toList :: r := (words_cut fTake (by decide +kernel)).1
theorem fMain : Tryz.prog.mainIs = some (true, "10a09baddbfcce9bd8a70ca77ac331f43d72abb69a0ea6a57f5a7428d7e74546".toList) := (words_cut fTake (by decide +kernel)).2
theorem fLays : Tryz.prog.laysLater = false := by kernel_rfl
theorem fRefl : Tryz.prog.bearsReflect = false := by kernel_rfl
theorem fDoor : Tryz.prog.doorFits [] = true := by kernel_rfl
theorem fLooks : false = Tryz.prog.looks [] := by kernel_rfl
theorem fHeard : Tryz.prog.stopsHeard = true := by kernel_rfl
theorem fPlain : Tryz.prog.plainKeys = true := by kernel_rfl
theorem fRowed : mapsRowed Tryz.prog = true := by kernel_rfl
theorem fStops : (Tryz.prog.stops == []) = true := by kernel_rfl
theorem fKnobs : (Tryz.prog.stopKnobs == []) = true := by kernel_rfl
end Go.Proofs.YtijhplgdhjkdpaaGreatDoor
