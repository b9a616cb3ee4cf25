/- A part of the proof. -/
import Derived.Test.YtjenbilhieomoaaDoorFE
import Derived.Test.YtjenbilhieomoaaDoorFD
import Derived.Test.YtjenbilhieomoaaDoorGK
import Derived.Test.YtjenbilhieomoaaDoorRows
import Derived.Test.YtjenbilhieomoaaDoorCards
import Derived.Test.YtjenbilhieomoaaDoorTie
import Derived.ProofKit
import Derived.LaidMore
import Derived.OpenShut
import Derived.Stop.Joined
import Derived.Stop.LaidErr
import Derived.SevenTiedAt
set_option linter.all false
namespace Go.Proofs.YtjenbilhieomoaaDoor
open Go.ChangeShapes Go.WideShapes Go.ChangeAt Go.RowKit Go.Lv

theorem Tryd.own : ownKnob Tryd.prog.godebug = none := by kernel_rfl
theorem Tryd.laidOut : laidOutB Tryd.prog = true := by kernel_rfl

theorem op22 : Opens Tryd.prog 22 (oneOf fun _ : BitVec 32 => True) := Op_u32 Tryd.underlying22
theorem op5 : Opens Tryd.prog 5 (oneOf fun _ : BitVec 8 => True) := Op_u8 Tryd.underlying5
theorem op55 : Opens Tryd.prog 55 (oneOf fun _ : BitVec 64 => True) := Op_u64 Tryd.underlying55
theorem op4 : Opens Tryd.prog 4 (oneOf fun _ : Bool => True) := Op_bool Tryd.underlying4
theorem op3 : Opens Tryd.prog 3 (oneOf i64ok) := Op_int Tryd.underlying3
theorem op24 : Opens Tryd.prog 24 (oneOf fun l : List (BitVec 8) => (∀ x ∈ l, True) ∧ l.length * 1 ≤ 140737488351232) := Op_list 1 Tryd.underlying24 op5 (by decide +kernel) (by decide +kernel)
theorem op61 : Opens Tryd.prog 61 (oneOf fun l : List (List (BitVec 8)) => (∀ x ∈ l, (∀ y ∈ x, True) ∧ x.length * 1 ≤ 140737488351232) ∧ l.length * 24 ≤ 140737488351232) := Op_list 24 Tryd.underlying61 op24 (by decide +kernel) (by decide +kernel)
theorem op23 : Opens Tryd.prog 23 (someOf 16 fun _ : BitVec 8 => True) := Op_arr Tryd.underlying23 op5 (by decide +kernel)
theorem op26 : Opens Tryd.prog 26 (fun xs => ∃ k : Leaf, k.ok ∧ xs = k.c) := by
  refine (Opens_st Tryd.underlying26 (e := 19) (by kernel_rfl) (.cons rfl op22 (k' := 1) (by kernel_rfl) (.cons rfl op23 (k' := 17) (by kernel_rfl) (.cons rfl op22 (k' := 18) (by kernel_rfl) (.cons rfl op24 (k' := 19) (by kernel_rfl) (.nil _)))))).mono ?_
  rintro xs ⟨_, _, ⟨c, _, rfl⟩, ⟨_, _, ⟨l, hl, _, rfl⟩, ⟨_, _, ⟨q, _, rfl⟩, ⟨_, _, ⟨s, ⟨_, hs⟩, rfl⟩, rfl, rfl⟩, rfl⟩, rfl⟩, rfl⟩
  exact ⟨⟨c, l, q, s⟩, ⟨hl, by simp only; omega⟩, rfl⟩

def laidL : List (String × DataW Unit) := [("livery/sha2.table", Rows.laid_livery_sha2_table), ("livery/sha2.start", Rows.laid_livery_sha2_start)]
theorem tabT : laidL = [("livery/sha2.table", Lib.tabData .u32 (K256.map fun x => (x.toNat : Int))), ("livery/sha2.start", Lib.tabData .u32 (H256.l.map fun x => (x.toNat : Int)))] := by kernel_rfl
theorem glTable : Tryd.prog.globalNamed "livery/sha2.table" = some 1 := by kernel_rfl
theorem glStart : Tryd.prog.globalNamed "livery/sha2.start" = some 0 := by kernel_rfl
theorem glTableT : (Tryd.prog.globals[1]?).map (·.type) = some 155 := by kernel_rfl
theorem glStartT : (Tryd.prog.globals[0]?).map (·.type) = some 139 := by kernel_rfl
theorem of_laid {W : World} (h : laidMetH Tryd.prog laidL W) : ∀ g cs, lkf Gs g = some cs → g < W.heap.size ∧ GC cs (cW W) g 0 := by
  rw [MakeChecks.laidMetH_plain _ _ _ (by kernel_rfl), tabT] at h
  have h1 := Lib.tabIs_of_head glTable glTableT Tryd.underlying155 Tryd.underlying22 (by kernel_rfl) (by kernel_rfl) h
  have h2 := Lib.tabIs_of_head glStart glStartT Tryd.underlying139 Tryd.underlying22 (by kernel_rfl) (by kernel_rfl) h.tail
  intro g cs hg
  match g, hg with
  | 0, hg =>
    rw [gs0] at hg
    obtain rfl := Option.some.inj hg
    exact tab_GC glStart H256.l (by decide) h2
  | 1, hg =>
    rw [gs1] at hg
    obtain rfl := Option.some.inj hg
    exact tab_GC glTable K256 (by decide) h1
theorem door_met (os : Os) (args : Array Value) : laidMetH Tryd.prog laidL ((World.doorLaid Tryd.prog 4000 os).forCall (fun _ _ => 0) ⟨#[], args, []⟩).memory :=
  laidMetH_of_parts3 (fuel := 8) (laidMet_of_run' 8 (by kernel_rfl) (by kernel_rfl)) (by kernel_rfl) (by kernel_rfl)
end Go.Proofs.YtjenbilhieomoaaDoor
