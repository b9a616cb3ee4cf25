/- A part of the proof. -/
import Derived.Test.YtffmejeeddplaaaGreatDoorFE
import Derived.Test.YtffmejeeddplaaaGreatDoorFD
import Derived.Test.YtffmejeeddplaaaGreatDoorGK
import Derived.Test.YtffmejeeddplaaaGreatDoorRows
import Derived.Test.YtffmejeeddplaaaGreatDoorCards
import Derived.Test.YtffmejeeddplaaaGreatDoorTie
import Derived.ProofKit
import Derived.LaidMore
import Derived.OpenShut
import Derived.Stop.Joined
import Derived.Stop.LaidErr
import Derived.SevenTiedAt
set_option linter.all false
namespace Go.Proofs.YtffmejeeddplaaaGreatDoor
open Go.ChangeShapes Go.WideShapes Go.ChangeAt Go.RowKit Go.Lv
theorem Tryz.own : ownKnob Tryz.prog.godebug = none := by kernel_rfl
theorem Tryz.laidOut : laidOutB Tryz.prog = true := by kernel_rfl
theorem op23 : Opens Tryz.prog 23 (oneOf fun _ : BitVec 32 => True) := Op_u32 Tryz.underlying23
theorem op5 : Opens Tryz.prog 5 (oneOf fun _ : BitVec 8 => True) := Op_u8 Tryz.underlying5
theorem op25 : Opens Tryz.prog 25 (oneOf fun l : List (BitVec 8) => (∀ x ∈ l, True) ∧ l.length * 1 ≤ 140737488351232) := Op_list 1 Tryz.underlying25 op5 (by decide +kernel) (by decide +kernel)
theorem op24 : Opens Tryz.prog 24 (someOf 16 fun _ : BitVec 8 => True) := Op_arr Tryz.underlying24 op5 (by decide +kernel)
def laidL : List (String × DataW Unit) := [("livery/sha2.table", Rows.laid_livery_sha2_table), ("livery/sha2.start", Rows.laid_livery_sha2_start)]
theorem tabT : laidL = [("livery/sha2.table", Lib.tabData .u32 (K256.map fun x => (x.toNat : Int))), ("livery/sha2.start", Lib.tabData .u32 (H256.l.map fun x => (x.toNat : Int)))] := by kernel_rfl
theorem glTable : Tryz.prog.globalNamed "livery/sha2.table" = some 1 := by kernel_rfl
theorem glStart : Tryz.prog.globalNamed "livery/sha2.start" = some 0 := by kernel_rfl
theorem glTableT : (Tryz.prog.globals[1]?).map (·.type) = some 284 := by kernel_rfl
theorem glStartT : (Tryz.prog.globals[0]?).map (·.type) = some 168 := by kernel_rfl
theorem of_laid {W : World} (h : laidMetH Tryz.prog laidL W) : ∀ g cs, lkf Gs g = some cs → g < W.heap.size ∧ GC cs (cW W) g 0 := by
  rw [MakeChecks.laidMetH_plain _ _ _ (by kernel_rfl), tabT] at h
  have h1 := Lib.tabIs_of_head glTable glTableT Tryz.underlying284 Tryz.underlying23 (by kernel_rfl) (by kernel_rfl) h
  have h2 := Lib.tabIs_of_head glStart glStartT Tryz.underlying168 Tryz.underlying23 (by kernel_rfl) (by kernel_rfl) h.tail
  intro g cs hg
  match g, hg with
  | 0, hg =>
    rw [gs0] at hg
    obtain rfl := Option.some.inj hg
    exact tab_GC glStart H256.l (by decide) h2
  | 1, hg =>
    rw [gs1] at hg
    obtain rfl := Option.some.inj hg
    exact tab_GC glTable K256 (by decide) h1
theorem door_met (os : Os) (args : Array Value) : laidMetH Tryz.prog laidL ((World.doorLaid Tryz.prog 4000 os).forCall (fun _ _ => 0) ⟨#[], args, []⟩).memory :=
  laidMetH_of_parts3 (fuel := 8) (laidMet_of_run' 8 (by kernel_rfl) (by kernel_rfl)) (by kernel_rfl) (by kernel_rfl)
end Go.Proofs.YtffmejeeddplaaaGreatDoor
