/- A part of the proof. -/
import Derived.Test.YtffmejeeddplaaaGreatDoorRw
import Derived.Test.YtffmejeeddplaaaGreatDoorGY
set_option linter.all false
namespace Go.Proofs.YtffmejeeddplaaaGreatDoor
open Go.ChangeShapes Go.WideShapes Go.ChangeAt Go.RowKit Go.Lv
theorem op67 : Opens Tryz.prog 67 (fun xs => ∃ (a b : BitVec 32), xs = [.u32 a, .u32 b]) := by
  refine (Opens_st Tryz.underlying67 (e := 2) (by kernel_rfl) (.cons rfl op23 (k' := 1) (by kernel_rfl) (.cons rfl op23 (k' := 2) (by kernel_rfl) (.nil _)))).mono ?_
  rintro xs ⟨_, _, ⟨n, _, rfl⟩, ⟨_, _, ⟨b, _, rfl⟩, rfl, rfl⟩, rfl⟩
  exact ⟨n, b, rfl⟩
theorem levels_of : ∀ (ys : List (List AV)), (∀ y ∈ ys, ∃ (a b : BitVec 32), y = [.u32 a, .u32 b]) → ∃ ts : List Level, ts.length = ys.length ∧ ys.flatten = lvc ts
  | [], _ => ⟨[], rfl, rfl⟩
  | y :: ys, h => by
    obtain ⟨ts, h1, h2⟩ := levels_of ys fun z hz => h z (by simp [hz])
    obtain ⟨a, b, rfl⟩ := h y (by simp)
    exact ⟨⟨a, b⟩ :: ts, by simp [h1], by simp [h2, lvc]⟩
theorem op22 : Opens Tryz.prog 22 (fun xs => ∃ ts : List Level, ts.length * 8 ≤ 140737488351232 ∧ xs = [.ros false ts.length (lvc ts)]) := by
  refine (Opens_slice Tryz.underlying22 op67 (by decide +kernel)).mono ?_
  rintro xs ⟨ys, h1, h2, rfl⟩
  obtain ⟨ts, k1, k2⟩ := levels_of ys h1
  have hz : Tryz.prog.bytesOf 67 = 8 := by decide +kernel
  rw [hz] at h2
  exact ⟨ts, by rw [k1]; exact h2, by rw [k1, k2]⟩
section
variable {H : Type} {enc : TypeId × Value → H} {P : Program} {w : World} {base : Nat} {spare : Nat → Bool} {held : Bool}
end
end Go.Proofs.YtffmejeeddplaaaGreatDoor
