/- KeccakSponge: for every text the law returns true and leaves its argument as it was; without a condition. -/
import Derived.Test.YtlieeeembbjenaaXb
import Derived.Test.YtlieeeembbjenaaFD
import Derived.Test.YtlieeeembbjenaaKa
import Derived.Test.YtlieeeembbjenaaRows
set_option linter.all false
namespace Go.Proofs.Ytlieeeembbjenaa
open Go.ChangeShapes Go.WideShapes Go.ChangeAt Go.RowKit Go.Lv

theorem Try.own : ownKnob Try.prog.godebug = none := by kernel_rfl
theorem Try.laidOut : laidOutB Try.prog = true := by kernel_rfl

theorem op5 : Opens Try.prog 5 (oneOf fun _ : BitVec 8 => True) := Op_u8 Try.underlying5
theorem op25 : Opens Try.prog 25 (oneOf fun l : List (BitVec 8) => (∀ x ∈ l, True) ∧ l.length * 1 ≤ 140737488351232) := Op_list 1 Try.underlying25 op5 (by decide +kernel) (by decide +kernel)

set_option maxRecDepth 100000 in
theorem keccakSponge_lifted (os : Os) (started : os.Started) (H : Type) (enc : TypeId × Value → H) :
    ReturnsInHanded {} Try.checked os 9 .any (Rows.keccakSpongeSpec.pre6 enc Try.prog Try.f9 Rows.keccakSpongeRow.domain false) (Rows.keccakSpongeSpec.post enc Try.prog Try.f9 false true false false) := by
  refine returnsInHanded_of_change_sized (C := Try.checked) Try.own started (by kernel_rfl) Try.func9
    (ChangeSpec.witness6 (enc := enc) (C := Try.checked) false ⟨#[], #[.slice none 0 0], []⟩ 8 (by kernel_rfl) (by kernel_rfl) (by kernel_rfl) (by kernel_rfl)) ?_
  intro W base args ds gs before hval hW _ hz _
  have hW' := hW
  obtain ⟨p, q, hA, hV, rfl, hfz, hnd⟩ := hW
  rw [Try.params9] at hA
  obtain ⟨v0, d0, e1, rfl, h0⟩ := trodAll_one hA
  obtain ⟨rfl, rfl⟩ := trodVars_none hV
  have hwt : ∀ (j : Nat) (t : TypeId) (d : DataW H), (Try.f9.params.toList ++ DataSpec.varTypes Try.checked.prog Rows.keccakSpongeSpec.plain)[j]? = some t → ([d0] ++ [])[j]? = some d → ∀ n ∈ d.weights Try.prog t, n ≤ reachBytes :=
    fun j t d ht hd n hn => of_decide_eq_true (List.all_eq_true.1 hz n (DataW.weights_mem_each ht hd n hn))
  obtain ⟨x0, ⟨a0, ⟨_, b0⟩, k0⟩, g0⟩ := arg_one (.inr (.inr ⟨_, Try.underlying25⟩)) op25 (hval 0 25 v0 rfl (by rw [e1]; rfl)) h0 (hwt 0 25 d0 rfl rfl)
  simp only [List.cons.injEq, and_true] at k0
  subst k0
  refine (law_calls (KSponge_fun a0 (by omega)) ?_).mono fun e W' ⟨he, hb⟩ => ⟨_, he, post_law rfl hW' rfl rfl rfl rfl Try.underlying4 hb Try.laidOut ?_⟩
  · rw [e1]; simp only [GL]; exact ⟨_, _, rfl, g0, rfl⟩
  · rw [Try.params9]; decide +kernel

theorem keccakSponge_holds : Rows.KeccakSpongeSaid :=
  OpenClaim.holds_of_wide 9 Try.f9 rfl rfl rfl rfl rfl rfl rfl ⟨rfl, rfl, rfl, rfl, rfl⟩ rfl rfl rfl rfl rfl (by kernel_rfl) Try.func9 (by kernel_rfl)
    (of_decide_eq_true (by kernel_rfl)) (by unfold Func.isWrapper; first | (rw [if_pos (by decide +kernel)]; kernel_rfl) | (rw [if_neg (by decide +kernel)]; exact ⟨rfl, rfl⟩))
    (fun os started H enc _ => keccakSponge_lifted os started H enc)

end Go.Proofs.Ytlieeeembbjenaa
