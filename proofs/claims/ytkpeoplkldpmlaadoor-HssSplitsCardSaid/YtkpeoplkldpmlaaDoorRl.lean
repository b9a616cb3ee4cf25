/- A part of the proof. -/
import Derived.Test.YtkpeoplkldpmlaaDoorZp
import Derived.Test.YtkpeoplkldpmlaaDoorRw
set_option linter.all false
namespace Go.Proofs.YtkpeoplkldpmlaaDoor
open Go.ChangeShapes Go.WideShapes Go.ChangeAt Go.RowKit Go.Lv
theorem op93 : Opens Tryd.prog 93 (fun xs => ∃ (a b : BitVec 32), xs = [.u32 a, .u32 b]) := by
  refine (Opens_st Tryd.underlying93 (e := 2) (by kernel_rfl) (.cons rfl op22 (k' := 1) (by kernel_rfl) (.cons rfl op22 (k' := 2) (by kernel_rfl) (.nil _)))).mono ?_
  rintro xs ⟨_, _, ⟨n, _, rfl⟩, ⟨_, _, ⟨b, _, rfl⟩, rfl, rfl⟩, rfl⟩
  exact ⟨n, b, rfl⟩
theorem levels_of : ∀ (ys : List (List AV)), (∀ y ∈ ys, ∃ (a b : BitVec 32), y = [.u32 a, .u32 b]) → ∃ ts : List Level, ts.length = ys.length ∧ ys.flatten = lvc ts
  | [], _ => ⟨[], rfl, rfl⟩
  | y :: ys, h => by
    obtain ⟨ts, h1, h2⟩ := levels_of ys fun z hz => h z (by simp [hz])
    obtain ⟨a, b, rfl⟩ := h y (by simp)
    exact ⟨⟨a, b⟩ :: ts, by simp [h1], by simp [h2, lvc]⟩
theorem op82 : Opens Tryd.prog 82 (fun xs => ∃ ts : List Level, ts.length * 8 ≤ 140737488351232 ∧ xs = [.ros false ts.length (lvc ts)]) := by
  refine (Opens_slice Tryd.underlying82 op93 (by decide +kernel)).mono ?_
  rintro xs ⟨ys, h1, h2, rfl⟩
  obtain ⟨ts, k1, k2⟩ := levels_of ys h1
  have hz : Tryd.prog.bytesOf 93 = 8 := by decide +kernel
  rw [hz] at h2
  exact ⟨ts, by rw [k1]; exact h2, by rw [k1, k2]⟩
section
variable {H : Type} {enc : TypeId × Value → H} {P : Program} {w : World} {base : Nat} {spare : Nat → Bool} {held : Bool}
theorem trodAll_five {t0 t1 t2 t3 t4 : TypeId} {args : Array Value} {ds : List (DataW H)} {ps : List MemPlace} (h : DataW.TrodAll enc P w base spare held [t0, t1, t2, t3, t4] args.toList ds ps) :
    ∃ v0 v1 v2 v3 v4 d0 d1 d2 d3 d4 p0 p1 p2 p3 p4, args = #[v0, v1, v2, v3, v4] ∧ ds = [d0, d1, d2, d3, d4] ∧ ps = p0 ++ p1 ++ p2 ++ p3 ++ p4 ∧ DataW.Trod enc P w base spare held t0 v0 d0 p0 ∧ DataW.Trod enc P w base spare held t1 v1 d1 p1 ∧ DataW.Trod enc P w base spare held t2 v2 d2 p2 ∧ DataW.Trod enc P w base spare held t3 v3 d3 p3 ∧ DataW.Trod enc P w base spare held t4 v4 d4 p4 := by
  obtain ⟨v0, vs0, d0, ds0, p0, q0, hargs, rfl, rfl, h0, r0⟩ := trodAll_cons h
  obtain ⟨v1, vs1, d1, ds1, p1, q1, rfl, rfl, rfl, h1, r1⟩ := trodAll_cons r0
  obtain ⟨v2, vs2, d2, ds2, p2, q2, rfl, rfl, rfl, h2, r2⟩ := trodAll_cons r1
  obtain ⟨v3, vs3, d3, ds3, p3, q3, rfl, rfl, rfl, h3, r3⟩ := trodAll_cons r2
  obtain ⟨v4, vs4, d4, ds4, p4, q4, rfl, rfl, rfl, h4, r4⟩ := trodAll_cons r3
  obtain ⟨rfl, rfl, rfl⟩ := trodAll_nil r4
  exact ⟨v0, v1, v2, v3, v4, d0, d1, d2, d3, d4, p0, p1, p2, p3, p4, by cases args; simp_all, rfl, by simp, h0, h1, h2, h3, h4⟩
end
end Go.Proofs.YtkpeoplkldpmlaaDoor
