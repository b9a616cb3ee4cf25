/- KeccakNone: for every number the law returns true; without a condition. -/
import Derived.Test.YtlieeeembbjenaaUg
import Derived.Test.YtlieeeembbjenaaFD
import Derived.Test.YtlieeeembbjenaaKa
import Derived.Test.YtlieeeembbjenaaRows
set_option linter.all false
namespace Go.Proofs.Ytlieeeembbjenaa
open Go.ChangeShapes Go.WideShapes Go.ChangeAt Go.RowKit Go.Lv

theorem Try.own : ownKnob Try.prog.godebug = none := by kernel_rfl
theorem Try.laidOut : laidOutB Try.prog = true := by kernel_rfl

theorem op3 : Opens Try.prog 3 (oneOf i64ok) := Op_int Try.underlying3

set_option maxRecDepth 100000 in
theorem keccakNone_lifted (os : Os) (started : os.Started) (H : Type) (enc : TypeId × Value → H) :
    ReturnsInHanded {} Try.checked os 13 .any (Rows.keccakNoneSpec.pre6 enc Try.prog Try.f13 Rows.keccakNoneRow.domain false) (Rows.keccakNoneSpec.post enc Try.prog Try.f13 false true false false) := by
  refine returnsInHanded_of_change_sized (C := Try.checked) Try.own started (by kernel_rfl) Try.func13
    (ChangeSpec.witness6 (enc := enc) (C := Try.checked) false ⟨#[], #[.int .i64 0], []⟩ 8 (by kernel_rfl) (by kernel_rfl) (by kernel_rfl) (by kernel_rfl)) ?_
  intro W base args ds gs before hval hW _ hz _
  have hW' := hW
  obtain ⟨p, q, hA, hV, rfl, hfz, hnd⟩ := hW
  rw [Try.params13] at hA
  obtain ⟨v0, d0, e1, rfl, h0⟩ := trodAll_one hA
  obtain ⟨rfl, rfl⟩ := trodVars_none hV
  have hwt : ∀ (j : Nat) (t : TypeId) (d : DataW H), (Try.f13.params.toList ++ DataSpec.varTypes Try.checked.prog Rows.keccakNoneSpec.plain)[j]? = some t → ([d0] ++ [])[j]? = some d → ∀ n ∈ d.weights Try.prog t, n ≤ reachBytes :=
    fun j t d ht hd n hn => of_decide_eq_true (List.all_eq_true.1 hz n (DataW.weights_mem_each ht hd n hn))
  obtain ⟨x0, ⟨a0, b0, k0⟩, g0⟩ := arg_one (.inl ⟨_, Try.underlying3⟩) op3 (hval 0 3 v0 rfl (by rw [e1]; rfl)) h0 (hwt 0 3 d0 rfl rfl)
  simp only [List.cons.injEq, and_true] at k0
  subst k0
  refine (law_calls (KNone_fun a0 b0) ?_).mono fun e W' ⟨he, hb⟩ => ⟨_, he, post_law rfl hW' rfl rfl rfl rfl Try.underlying4 hb Try.laidOut ?_⟩
  · rw [e1]; simp only [GL]; exact ⟨_, _, rfl, g0, rfl⟩
  · rw [Try.params13]; decide +kernel

theorem keccakNone_holds : Rows.KeccakNoneSaid :=
  OpenClaim.holds_of_wide 13 Try.f13 rfl rfl rfl rfl rfl rfl rfl ⟨rfl, rfl, rfl, rfl, rfl⟩ rfl rfl rfl rfl rfl (by kernel_rfl) Try.func13 (by kernel_rfl)
    (of_decide_eq_true (by kernel_rfl)) (by unfold Func.isWrapper; first | (rw [if_pos (by decide +kernel)]; kernel_rfl) | (rw [if_neg (by decide +kernel)]; exact ⟨rfl, rfl⟩))
    (fun os started H enc _ => keccakNone_lifted os started H enc)

end Go.Proofs.Ytlieeeembbjenaa
