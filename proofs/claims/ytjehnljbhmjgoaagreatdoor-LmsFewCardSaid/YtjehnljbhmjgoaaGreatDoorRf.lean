/- A part of the proof. -/
import Derived.Test.YtjehnljbhmjgoaaGreatDoorRw
import Derived.Test.YtjehnljbhmjgoaaGreatDoorFE
set_option linter.all false
namespace Go.Proofs.YtjehnljbhmjgoaaGreatDoor
open Go.ChangeShapes Go.WideShapes Go.ChangeAt Go.RowKit Go.Lv
theorem fTake : (wordsSigns Tryz.prog.initOrder.toList).take 3 = ["harness".toList, "06509fc3e8edd468d53aaf23e62f6cca9f36ccdf5675f24a8db49316dc45e191".toList, "cut".toList] := by kernel_rfl
theorem fWords : ∃ r, behindMainWord (wordsSigns Tryz.prog.initOrder.toList) = "cut".toList :: r := (words_cut fTake (by decide +kernel)).1
theorem fMain : Tryz.prog.mainIs = some (true, "06509fc3e8edd468d53aaf23e62f6cca9f36ccdf5675f24a8db49316dc45e191".toList) := (words_cut fTake (by decide +kernel)).2
theorem fLays : Tryz.prog.laysLater = false := by kernel_rfl
theorem fRefl : Tryz.prog.bearsReflect = false := by kernel_rfl
theorem fDoor : Tryz.prog.doorFits [] = true := by kernel_rfl
theorem fLooks : false = Tryz.prog.looks [] := by kernel_rfl
theorem fHeard : Tryz.prog.stopsHeard = true := by kernel_rfl
theorem fPlain : Tryz.prog.plainKeys = true := by kernel_rfl
theorem fRowed : mapsRowed Tryz.prog = true := by kernel_rfl
theorem fStops : (Tryz.prog.stops == []) = true := by kernel_rfl
theorem fKnobs : (Tryz.prog.stopKnobs == []) = true := by kernel_rfl
end Go.Proofs.YtjehnljbhmjgoaaGreatDoor
