/- KeccakReads: for every input the law returns true and leaves its arguments as they were; without a condition. -/
import Derived.Test.YtlieeeembbjenaaWk
import Derived.Test.YtlieeeembbjenaaFD
import Derived.Test.YtlieeeembbjenaaKa
import Derived.Test.YtlieeeembbjenaaRows
set_option linter.all false
namespace Go.Proofs.Ytlieeeembbjenaa
open Go.ChangeShapes Go.WideShapes Go.ChangeAt Go.RowKit Go.Lv

theorem Try.own : ownKnob Try.prog.godebug = none := by kernel_rfl
theorem Try.laidOut : laidOutB Try.prog = true := by kernel_rfl

theorem op4 : Opens Try.prog 4 (oneOf fun _ : Bool => True) := Op_bool Try.underlying4
theorem op5 : Opens Try.prog 5 (oneOf fun _ : BitVec 8 => True) := Op_u8 Try.underlying5
theorem op25 : Opens Try.prog 25 (oneOf fun l : List (BitVec 8) => (∀ x ∈ l, True) ∧ l.length * 1 ≤ 140737488351232) := Op_list 1 Try.underlying25 op5 (by decide +kernel) (by decide +kernel)
theorem op3 : Opens Try.prog 3 (oneOf i64ok) := Op_int Try.underlying3
theorem op79 : Opens Try.prog 79 (fun xs => ∃ (n : Int) (b : Bool), xs = [.i n, .b b]) := by
  refine (Opens_st Try.underlying79 (e := 2) (by kernel_rfl) (.cons rfl op3 (k' := 1) (by kernel_rfl) (.cons rfl op4 (k' := 2) (by kernel_rfl) (.nil _)))).mono ?_
  rintro xs ⟨_, _, ⟨n, _, rfl⟩, ⟨_, _, ⟨b, _, rfl⟩, rfl, rfl⟩, rfl⟩
  exact ⟨n, b, rfl⟩
theorem turns_of : ∀ (ys : List (List AV)), (∀ y ∈ ys, ∃ (n : Int) (b : Bool), y = [.i n, .b b]) → ∃ ts : List (Int × Bool), ts.length = ys.length ∧ ys.flatten = tcs ts
  | [], _ => ⟨[], rfl, rfl⟩
  | y :: ys, h => by
    obtain ⟨ts, h1, h2⟩ := turns_of ys fun z hz => h z (by simp [hz])
    obtain ⟨n, b, rfl⟩ := h y (by simp)
    exact ⟨(n, b) :: ts, by simp [h1], by simp [h2, tcs]⟩
theorem op76 : Opens Try.prog 76 (fun xs => ∃ ts : List (Int × Bool), ts.length * 16 ≤ 140737488351232 ∧ xs = [.ros false ts.length (tcs ts)]) := by
  refine (Opens_slice Try.underlying76 op79 (by decide +kernel)).mono ?_
  rintro xs ⟨ys, h1, h2, rfl⟩
  obtain ⟨ts, k1, k2⟩ := turns_of ys h1
  have hz : Try.prog.bytesOf 79 = 16 := by decide +kernel
  rw [hz] at h2
  exact ⟨ts, by rw [k1]; exact h2, by rw [k1, k2]⟩

set_option maxRecDepth 100000 in
theorem keccakReads_lifted (os : Os) (started : os.Started) (H : Type) (enc : TypeId × Value → H) :
    ReturnsInHanded {} Try.checked os 12 .any (Rows.keccakReadsSpec.pre6 enc Try.prog Try.f12 Rows.keccakReadsRow.domain false) (Rows.keccakReadsSpec.post enc Try.prog Try.f12 false true false false) := by
  refine returnsInHanded_of_change_sized (C := Try.checked) Try.own started (by kernel_rfl) Try.func12
    (ChangeSpec.witness6 (enc := enc) (C := Try.checked) false ⟨#[], #[.bool false, .slice none 0 0, .slice none 0 0], []⟩ 8 (by kernel_rfl) (by kernel_rfl) (by kernel_rfl) (by kernel_rfl)) ?_
  intro W base args ds gs before hval hW _ hz _
  have hW' := hW
  obtain ⟨p, q, hA, hV, rfl, hfz, hnd⟩ := hW
  rw [Try.params12] at hA
  obtain ⟨v0, v1, v2, d0, d1, d2, p0, p1, p2, e1, rfl, rfl, h0, h1, h2⟩ := trodAll_three hA
  obtain ⟨rfl, rfl⟩ := trodVars_none hV
  have hwt : ∀ (j : Nat) (t : TypeId) (d : DataW H), (Try.f12.params.toList ++ DataSpec.varTypes Try.checked.prog Rows.keccakReadsSpec.plain)[j]? = some t → ([d0, d1, d2] ++ [])[j]? = some d → ∀ n ∈ d.weights Try.prog t, n ≤ reachBytes :=
    fun j t d ht hd n hn => of_decide_eq_true (List.all_eq_true.1 hz n (DataW.weights_mem_each ht hd n hn))
  obtain ⟨x0, ⟨a0, _, k0⟩, g0⟩ := arg_one (.inr (.inl Try.underlying4)) op4 (hval 0 4 v0 rfl (by rw [e1]; rfl)) h0 (hwt 0 4 d0 rfl rfl)
  obtain ⟨x1, ⟨a1, ⟨_, b1⟩, k1⟩, g1⟩ := arg_one (.inr (.inr ⟨_, Try.underlying25⟩)) op25 (hval 1 25 v1 rfl (by rw [e1]; rfl)) h1 (hwt 1 25 d1 rfl rfl)
  obtain ⟨x2, ⟨a2, b2, k2⟩, g2⟩ := arg_one (.inr (.inr ⟨_, Try.underlying76⟩)) op76 (hval 2 76 v2 rfl (by rw [e1]; rfl)) h2 (hwt 2 76 d2 rfl rfl)
  simp only [List.cons.injEq, and_true] at k0 k1 k2
  subst k0 k1 k2
  refine (law_calls (KReads_fun a0 a1 a2 (by omega) (by omega)) ?_).mono fun e W' ⟨he, hb⟩ => ⟨_, he, post_law rfl hW' rfl rfl rfl rfl Try.underlying4 hb Try.laidOut ?_⟩
  · rw [e1]; simp only [GL]; exact ⟨_, _, rfl, g0, _, _, rfl, g1, _, _, rfl, g2, rfl⟩
  · rw [Try.params12]; decide +kernel

theorem keccakReads_holds : Rows.KeccakReadsSaid :=
  OpenClaim.holds_of_wide 12 Try.f12 rfl rfl rfl rfl rfl rfl rfl ⟨rfl, rfl, rfl, rfl, rfl⟩ rfl rfl rfl rfl rfl (by kernel_rfl) Try.func12 (by kernel_rfl)
    (of_decide_eq_true (by kernel_rfl)) (by unfold Func.isWrapper; first | (rw [if_pos (by decide +kernel)]; kernel_rfl) | (rw [if_neg (by decide +kernel)]; exact ⟨rfl, rfl⟩))
    (fun os started H enc _ => keccakReads_lifted os started H enc)

end Go.Proofs.Ytlieeeembbjenaa
