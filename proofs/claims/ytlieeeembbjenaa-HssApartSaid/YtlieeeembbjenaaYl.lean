/- HssApart: for every list of levels and every two indices the law returns true and leaves its arguments as they were; without a condition. -/
import Derived.Test.YtlieeeembbjenaaYk
import Derived.Test.YtlieeeembbjenaaFD
import Derived.Test.YtlieeeembbjenaaKa
import Derived.Test.YtlieeeembbjenaaRows
set_option linter.all false
namespace Go.Proofs.Ytlieeeembbjenaa
open Go.ChangeShapes Go.WideShapes Go.ChangeAt Go.RowKit Go.Lv

theorem Try.own : ownKnob Try.prog.godebug = none := by kernel_rfl
theorem Try.laidOut : laidOutB Try.prog = true := by kernel_rfl

theorem op22 : Opens Try.prog 22 (oneOf fun _ : BitVec 32 => True) := Op_u32 Try.underlying22
theorem op53 : Opens Try.prog 53 (fun xs => ∃ (a b : BitVec 32), xs = [.u32 a, .u32 b]) := by
  refine (Opens_st Try.underlying53 (e := 2) (by kernel_rfl) (.cons rfl op22 (k' := 1) (by kernel_rfl) (.cons rfl op22 (k' := 2) (by kernel_rfl) (.nil _)))).mono ?_
  rintro xs ⟨_, _, ⟨n, _, rfl⟩, ⟨_, _, ⟨b, _, rfl⟩, rfl, rfl⟩, rfl⟩
  exact ⟨n, b, rfl⟩
theorem levels_of : ∀ (ys : List (List AV)), (∀ y ∈ ys, ∃ (a b : BitVec 32), y = [.u32 a, .u32 b]) → ∃ ts : List Level, ts.length = ys.length ∧ ys.flatten = lvc ts
  | [], _ => ⟨[], rfl, rfl⟩
  | y :: ys, h => by
    obtain ⟨ts, h1, h2⟩ := levels_of ys fun z hz => h z (by simp [hz])
    obtain ⟨a, b, rfl⟩ := h y (by simp)
    exact ⟨⟨a, b⟩ :: ts, by simp [h1], by simp [h2, lvc]⟩
theorem op39 : Opens Try.prog 39 (fun xs => ∃ ts : List Level, ts.length * 8 ≤ 140737488351232 ∧ xs = [.ros false ts.length (lvc ts)]) := by
  refine (Opens_slice Try.underlying39 op53 (by decide +kernel)).mono ?_
  rintro xs ⟨ys, h1, h2, rfl⟩
  obtain ⟨ts, k1, k2⟩ := levels_of ys h1
  have hz : Try.prog.bytesOf 53 = 8 := by decide +kernel
  rw [hz] at h2
  exact ⟨ts, by rw [k1]; exact h2, by rw [k1, k2]⟩
theorem op40 : Opens Try.prog 40 (oneOf fun _ : BitVec 64 => True) := Op_u64 Try.underlying40

set_option maxRecDepth 100000 in
theorem hssApart_lifted (os : Os) (started : os.Started) (H : Type) (enc : TypeId × Value → H) :
    ReturnsInHanded {} Try.checked os 5 .any (Rows.hssApartSpec.pre6 enc Try.prog Try.f5 Rows.hssApartRow.domain false) (Rows.hssApartSpec.post enc Try.prog Try.f5 false true false false) := by
  refine returnsInHanded_of_change_sized (C := Try.checked) Try.own started (by kernel_rfl) Try.func5
    (ChangeSpec.witness6 (enc := enc) (C := Try.checked) false ⟨#[], #[.slice none 0 0, .int .u64 0, .int .u64 0], []⟩ 8 (by kernel_rfl) (by kernel_rfl) (by kernel_rfl) (by kernel_rfl)) ?_
  intro W base args ds gs before hval hW _ hz _
  have hW' := hW
  obtain ⟨p, q, hA, hV, rfl, hfz, hnd⟩ := hW
  rw [Try.params5] at hA
  obtain ⟨v0, v1, v2, d0, d1, d2, p0, p1, p2, e1, rfl, rfl, h0, h1, h2⟩ := trodAll_three hA
  obtain ⟨rfl, rfl⟩ := trodVars_none hV
  have hwt : ∀ (j : Nat) (t : TypeId) (d : DataW H), (Try.f5.params.toList ++ DataSpec.varTypes Try.checked.prog Rows.hssApartSpec.plain)[j]? = some t → ([d0, d1, d2] ++ [])[j]? = some d → ∀ n ∈ d.weights Try.prog t, n ≤ reachBytes :=
    fun j t d ht hd n hn => of_decide_eq_true (List.all_eq_true.1 hz n (DataW.weights_mem_each ht hd n hn))
  obtain ⟨x0, ⟨a0, b0, k0⟩, g0⟩ := arg_one (.inr (.inr ⟨_, Try.underlying39⟩)) op39 (hval 0 39 v0 rfl (by rw [e1]; rfl)) h0 (hwt 0 39 d0 rfl rfl)
  obtain ⟨x1, ⟨a1, _, k1⟩, g1⟩ := arg_one (.inl ⟨_, Try.underlying40⟩) op40 (hval 1 40 v1 rfl (by rw [e1]; rfl)) h1 (hwt 1 40 d1 rfl rfl)
  obtain ⟨x2, ⟨a2, _, k2⟩, g2⟩ := arg_one (.inl ⟨_, Try.underlying40⟩) op40 (hval 2 40 v2 rfl (by rw [e1]; rfl)) h2 (hwt 2 40 d2 rfl rfl)
  simp only [List.cons.injEq, and_true] at k0 k1 k2
  subst k0 k1 k2
  refine (law_calls (HApart_f a0 a1 a2 (by omega)) ?_).mono fun e W' ⟨he, hb⟩ => ⟨_, he, post_law rfl hW' rfl rfl rfl rfl Try.underlying4 hb Try.laidOut ?_⟩
  · rw [e1]; simp only [GL]; exact ⟨_, _, rfl, g0, _, _, rfl, g1, _, _, rfl, g2, rfl⟩
  · rw [Try.params5]; decide +kernel

theorem hssApart_holds : Rows.HssApartSaid :=
  OpenClaim.holds_of_wide 5 Try.f5 rfl rfl rfl rfl rfl rfl rfl ⟨rfl, rfl, rfl, rfl, rfl⟩ rfl rfl rfl rfl rfl (by kernel_rfl) Try.func5 (by kernel_rfl)
    (of_decide_eq_true (by kernel_rfl)) (by unfold Func.isWrapper; first | (rw [if_pos (by decide +kernel)]; kernel_rfl) | (rw [if_neg (by decide +kernel)]; exact ⟨rfl, rfl⟩))
    (fun os started H enc _ => hssApart_lifted os started H enc)

end Go.Proofs.Ytlieeeembbjenaa
