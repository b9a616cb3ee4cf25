/- KeccakShakes: for every input the law returns true and leaves its arguments as they were; without a condition. -/
import Derived.Test.YtlieeeembbjenaaWd
import Derived.Test.YtlieeeembbjenaaFD
import Derived.Test.YtlieeeembbjenaaKa
import Derived.Test.YtlieeeembbjenaaRows
set_option linter.all false
namespace Go.Proofs.Ytlieeeembbjenaa
open Go.ChangeShapes Go.WideShapes Go.ChangeAt Go.RowKit Go.Lv

theorem Try.own : ownKnob Try.prog.godebug = none := by kernel_rfl
theorem Try.laidOut : laidOutB Try.prog = true := by kernel_rfl

theorem op5 : Opens Try.prog 5 (oneOf fun _ : BitVec 8 => True) := Op_u8 Try.underlying5
theorem op25 : Opens Try.prog 25 (oneOf fun l : List (BitVec 8) => (∀ x ∈ l, True) ∧ l.length * 1 ≤ 140737488351232) := Op_list 1 Try.underlying25 op5 (by decide +kernel) (by decide +kernel)
theorem op58 : Opens Try.prog 58 (oneOf fun l : List (List (BitVec 8)) => (∀ x ∈ l, (∀ y ∈ x, True) ∧ x.length * 1 ≤ 140737488351232) ∧ l.length * 24 ≤ 140737488351232) := Op_list 24 Try.underlying58 op25 (by decide +kernel) (by decide +kernel)
theorem op3 : Opens Try.prog 3 (oneOf i64ok) := Op_int Try.underlying3

set_option maxRecDepth 100000 in
theorem keccakShakes_lifted (os : Os) (started : os.Started) (H : Type) (enc : TypeId × Value → H) :
    ReturnsInHanded {} Try.checked os 7 .any (Rows.keccakShakesSpec.pre6 enc Try.prog Try.f7 Rows.keccakShakesRow.domain false) (Rows.keccakShakesSpec.post enc Try.prog Try.f7 false true false false) := by
  refine returnsInHanded_of_change_sized (C := Try.checked) Try.own started (by kernel_rfl) Try.func7
    (ChangeSpec.witness6 (enc := enc) (C := Try.checked) false ⟨#[], #[.int .i64 0, .int .i64 0, .slice none 0 0], []⟩ 8 (by kernel_rfl) (by kernel_rfl) (by kernel_rfl) (by kernel_rfl)) ?_
  intro W base args ds gs before hval hW _ hz _
  have hW' := hW
  obtain ⟨p, q, hA, hV, rfl, hfz, hnd⟩ := hW
  rw [Try.params7] at hA
  obtain ⟨v0, v1, v2, d0, d1, d2, p0, p1, p2, e1, rfl, rfl, h0, h1, h2⟩ := trodAll_three hA
  obtain ⟨rfl, rfl⟩ := trodVars_none hV
  have hwt : ∀ (j : Nat) (t : TypeId) (d : DataW H), (Try.f7.params.toList ++ DataSpec.varTypes Try.checked.prog Rows.keccakShakesSpec.plain)[j]? = some t → ([d0, d1, d2] ++ [])[j]? = some d → ∀ n ∈ d.weights Try.prog t, n ≤ reachBytes :=
    fun j t d ht hd n hn => of_decide_eq_true (List.all_eq_true.1 hz n (DataW.weights_mem_each ht hd n hn))
  obtain ⟨x0, ⟨a0, b0, k0⟩, g0⟩ := arg_one (.inl ⟨_, Try.underlying3⟩) op3 (hval 0 3 v0 rfl (by rw [e1]; rfl)) h0 (hwt 0 3 d0 rfl rfl)
  obtain ⟨x1, ⟨a1, b1, k1⟩, g1⟩ := arg_one (.inl ⟨_, Try.underlying3⟩) op3 (hval 1 3 v1 rfl (by rw [e1]; rfl)) h1 (hwt 1 3 d1 rfl rfl)
  obtain ⟨x2, ⟨a2, ⟨c2, b2⟩, k2⟩, g2⟩ := arg_one (.inr (.inr ⟨_, Try.underlying58⟩)) op58 (hval 2 58 v2 rfl (by rw [e1]; rfl)) h2 (hwt 2 58 d2 rfl rfl)
  simp only [List.cons.injEq, and_true] at k0 k1 k2
  subst k0 k1 k2
  refine (law_calls (KShakes_fun a0 a1 a2 b0 b1 (fun x hx => by have := (c2 x hx).2; omega) (by omega)) ?_).mono fun e W' ⟨he, hb⟩ => ⟨_, he, post_law rfl hW' rfl rfl rfl rfl Try.underlying4 hb Try.laidOut ?_⟩
  · rw [e1]; simp only [GL]; exact ⟨_, _, rfl, g0, _, _, rfl, g1, _, _, rfl, g2, rfl⟩
  · rw [Try.params7]; decide +kernel

theorem keccakShakes_holds : Rows.KeccakShakesSaid :=
  OpenClaim.holds_of_wide 7 Try.f7 rfl rfl rfl rfl rfl rfl rfl ⟨rfl, rfl, rfl, rfl, rfl⟩ rfl rfl rfl rfl rfl (by kernel_rfl) Try.func7 (by kernel_rfl)
    (of_decide_eq_true (by kernel_rfl)) (by unfold Func.isWrapper; first | (rw [if_pos (by decide +kernel)]; kernel_rfl) | (rw [if_neg (by decide +kernel)]; exact ⟨rfl, rfl⟩))
    (fun os started H enc _ => keccakShakes_lifted os started H enc)

end Go.Proofs.Ytlieeeembbjenaa
