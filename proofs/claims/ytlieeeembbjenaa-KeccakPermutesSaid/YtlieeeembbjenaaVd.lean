/- KeccakPermutes: for every state the law returns true and leaves its argument as it was; without a condition. -/
import Derived.Test.YtlieeeembbjenaaVc
import Derived.Test.YtlieeeembbjenaaFD
import Derived.Test.YtlieeeembbjenaaKa
import Derived.Test.YtlieeeembbjenaaRows
set_option linter.all false
namespace Go.Proofs.Ytlieeeembbjenaa
open Go.ChangeShapes Go.WideShapes Go.ChangeAt Go.RowKit Go.Lv

theorem Try.own : ownKnob Try.prog.godebug = none := by kernel_rfl
theorem Try.laidOut : laidOutB Try.prog = true := by kernel_rfl

theorem op40 : Opens Try.prog 40 (oneOf fun _ : BitVec 64 => True) := Op_u64 Try.underlying40
theorem op55 : Opens Try.prog 55 (someOf 25 fun _ : BitVec 64 => True) := Op_arr Try.underlying55 op40 (by decide +kernel)

set_option maxRecDepth 100000 in
theorem keccakPermutes_lifted (os : Os) (started : os.Started) (H : Type) (enc : TypeId × Value → H) :
    ReturnsInHanded {} Try.checked os 6 .any (Rows.keccakPermutesSpec.pre6 enc Try.prog Try.f6 Rows.keccakPermutesRow.domain false) (Rows.keccakPermutesSpec.post enc Try.prog Try.f6 false true false false) := by
  refine returnsInHanded_of_change_sized (C := Try.checked) Try.own started (by kernel_rfl) Try.func6
    (ChangeSpec.witness6 (enc := enc) (C := Try.checked) false ⟨#[], #[.agg #[.int .u64 0, .int .u64 0, .int .u64 0, .int .u64 0, .int .u64 0, .int .u64 0, .int .u64 0, .int .u64 0, .int .u64 0, .int .u64 0, .int .u64 0, .int .u64 0, .int .u64 0, .int .u64 0, .int .u64 0, .int .u64 0, .int .u64 0, .int .u64 0, .int .u64 0, .int .u64 0, .int .u64 0, .int .u64 0, .int .u64 0, .int .u64 0, .int .u64 0]], []⟩ 8 (by kernel_rfl) (by kernel_rfl) (by kernel_rfl) (by kernel_rfl)) ?_
  intro W base args ds gs before hval hW _ hz _
  have hW' := hW
  obtain ⟨p, q, hA, hV, rfl, hfz, hnd⟩ := hW
  rw [Try.params6] at hA
  obtain ⟨v0, d0, e1, rfl, h0⟩ := trodAll_one hA
  obtain ⟨rfl, rfl⟩ := trodVars_none hV
  have hwt : ∀ (j : Nat) (t : TypeId) (d : DataW H), (Try.f6.params.toList ++ DataSpec.varTypes Try.checked.prog Rows.keccakPermutesSpec.plain)[j]? = some t → ([d0] ++ [])[j]? = some d → ∀ n ∈ d.weights Try.prog t, n ≤ reachBytes :=
    fun j t d ht hd n hn => of_decide_eq_true (List.all_eq_true.1 hz n (DataW.weights_mem_each ht hd n hn))
  obtain ⟨x0, ⟨a0, b0, _, k0⟩, g0⟩ := arg_agg (.inr ⟨_, _, Try.underlying55⟩) op55 (hval 0 55 v0 rfl (by rw [e1]; rfl)) h0 (hwt 0 55 d0 rfl rfl)
  subst k0
  refine (law_calls (KPermutes_fun a0 b0) ?_).mono fun e W' ⟨he, hb⟩ => ⟨_, he, post_law rfl hW' rfl rfl rfl rfl Try.underlying4 hb Try.laidOut ?_⟩
  · rw [e1]; simp only [GL]; exact ⟨_, _, rfl, g0, rfl⟩
  · rw [Try.params6]; decide +kernel

theorem keccakPermutes_holds : Rows.KeccakPermutesSaid :=
  OpenClaim.holds_of_wide 6 Try.f6 rfl rfl rfl rfl rfl rfl rfl ⟨rfl, rfl, rfl, rfl, rfl⟩ rfl rfl rfl rfl rfl (by kernel_rfl) Try.func6 (by kernel_rfl)
    (of_decide_eq_true (by kernel_rfl)) (by unfold Func.isWrapper; first | (rw [if_pos (by decide +kernel)]; kernel_rfl) | (rw [if_neg (by decide +kernel)]; exact ⟨rfl, rfl⟩))
    (fun os started H enc _ => keccakPermutes_lifted os started H enc)

end Go.Proofs.Ytlieeeembbjenaa
