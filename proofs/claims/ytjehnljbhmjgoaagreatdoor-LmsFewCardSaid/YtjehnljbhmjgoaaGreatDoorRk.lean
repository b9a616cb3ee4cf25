/- A part of the proof. -/
import Derived.Test.YtjehnljbhmjgoaaGreatDoorRw
import Derived.Test.YtjehnljbhmjgoaaGreatDoorGM
set_option linter.all false
namespace Go.Proofs.YtjehnljbhmjgoaaGreatDoor
open Go.ChangeShapes Go.WideShapes Go.ChangeAt Go.RowKit Go.Lv
theorem op61 : Opens Tryz.prog 61 (fun xs => ∃ l : Lms, xs = [.u32 l.code, .b l.shake, .i l.n, .i l.h]) := by
  refine (Opens_st Tryz.underlying61 (e := 4) (by kernel_rfl) (.cons rfl op22 (k' := 1) (by kernel_rfl) (.cons rfl op4 (k' := 2) (by kernel_rfl) (.cons rfl op3 (k' := 3) (by kernel_rfl) (.cons rfl op3 (k' := 4) (by kernel_rfl) (.nil _)))))).mono ?_
  rintro xs ⟨_, _, ⟨c, _, rfl⟩, ⟨_, _, ⟨s, _, rfl⟩, ⟨_, _, ⟨n, hn, rfl⟩, ⟨_, _, ⟨h, hh, rfl⟩, rfl, rfl⟩, rfl⟩, rfl⟩, rfl⟩
  exact ⟨⟨c, s, n, h⟩, rfl⟩
theorem op63 : Opens Tryz.prog 63 (fun xs => ∃ l : Ots, xs = [.u32 l.code, .b l.shake, .i l.n, .i l.w, .i l.p, .i l.ls]) := by
  refine (Opens_st Tryz.underlying63 (e := 6) (by kernel_rfl) (.cons rfl op22 (k' := 1) (by kernel_rfl) (.cons rfl op4 (k' := 2) (by kernel_rfl) (.cons rfl op3 (k' := 3) (by kernel_rfl) (.cons rfl op3 (k' := 4) (by kernel_rfl) (.cons rfl op3 (k' := 5) (by kernel_rfl) (.cons rfl op3 (k' := 6) (by kernel_rfl) (.nil _)))))))).mono ?_
  rintro xs ⟨_, _, ⟨c, _, rfl⟩, ⟨_, _, ⟨s, _, rfl⟩, ⟨_, _, ⟨n, hn, rfl⟩, ⟨_, _, ⟨h, hh, rfl⟩, ⟨_, _, ⟨p, hp, rfl⟩, ⟨_, _, ⟨q, hq, rfl⟩, rfl, rfl⟩, rfl⟩, rfl⟩, rfl⟩, rfl⟩, rfl⟩
  exact ⟨⟨c, s, n, h, p, q⟩, rfl⟩
theorem op65 : Opens Tryz.prog 65 (fun xs => ∃ k : LK, (k.id.length = 16 ∧ k.sd.length ≤ 140737488351232) ∧ xs = lkC k) := by
  refine (Opens_st Tryz.underlying65 (e := 27) (by kernel_rfl) (.cons rfl op61 (k' := 4) (by kernel_rfl) (.cons rfl op63 (k' := 10) (by kernel_rfl) (.cons rfl op46 (k' := 26) (by kernel_rfl) (.cons rfl op23 (k' := 27) (by kernel_rfl) (.nil _)))))).mono ?_
  rintro xs ⟨_, _, ⟨l, rfl⟩, ⟨_, _, ⟨o, rfl⟩, ⟨_, _, ⟨d, hd, _, rfl⟩, ⟨_, _, ⟨s, ⟨_, hs⟩, rfl⟩, rfl, rfl⟩, rfl⟩, rfl⟩, rfl⟩
  exact ⟨⟨l, o, d, s⟩, ⟨hd, by simp only; omega⟩, rfl⟩
end Go.Proofs.YtjehnljbhmjgoaaGreatDoor
