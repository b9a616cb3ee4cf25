/- LmotsDigits: for every code, every set made by hand and every sum the law returns true and leaves its arguments as they were; without a condition. -/
import Derived.Test.YtlieeeembbjenaaTm
import Derived.Test.YtlieeeembbjenaaFD
import Derived.Test.YtlieeeembbjenaaKa
import Derived.Test.YtlieeeembbjenaaRows
set_option linter.all false
namespace Go.Proofs.Ytlieeeembbjenaa
open Go.ChangeShapes Go.WideShapes Go.ChangeAt Go.RowKit Go.Lv

theorem Try.own : ownKnob Try.prog.godebug = none := by kernel_rfl
theorem Try.laidOut : laidOutB Try.prog = true := by kernel_rfl

theorem op22 : Opens Try.prog 22 (oneOf fun _ : BitVec 32 => True) := Op_u32 Try.underlying22
theorem op5 : Opens Try.prog 5 (oneOf fun _ : BitVec 8 => True) := Op_u8 Try.underlying5
theorem op4 : Opens Try.prog 4 (oneOf fun _ : Bool => True) := Op_bool Try.underlying4
theorem op3 : Opens Try.prog 3 (oneOf i64ok) := Op_int Try.underlying3
theorem op25 : Opens Try.prog 25 (oneOf fun l : List (BitVec 8) => (∀ x ∈ l, True) ∧ l.length * 1 ≤ 140737488351232) := Op_list 1 Try.underlying25 op5 (by decide +kernel) (by decide +kernel)
theorem op24 : Opens Try.prog 24 (fun xs => ∃ (c : BitVec 32) (s : Bool) (n w p ls : Int), i64ok n ∧ i64ok w ∧ i64ok p ∧ i64ok ls ∧ xs = [.u32 c, .b s, .i n, .i w, .i p, .i ls]) := by
  refine (Opens_st Try.underlying24 (e := 6) (by kernel_rfl) (.cons rfl op22 (k' := 1) (by kernel_rfl) (.cons rfl op4 (k' := 2) (by kernel_rfl) (.cons rfl op3 (k' := 3) (by kernel_rfl) (.cons rfl op3 (k' := 4) (by kernel_rfl) (.cons rfl op3 (k' := 5) (by kernel_rfl) (.cons rfl op3 (k' := 6) (by kernel_rfl) (.nil _)))))))).mono ?_
  rintro xs ⟨_, _, ⟨c, _, rfl⟩, ⟨_, _, ⟨s, _, rfl⟩, ⟨_, _, ⟨n, hn, rfl⟩, ⟨_, _, ⟨w, hw, rfl⟩, ⟨_, _, ⟨p, hp, rfl⟩, ⟨_, _, ⟨ls, hls, rfl⟩, rfl, rfl⟩, rfl⟩, rfl⟩, rfl⟩, rfl⟩, rfl⟩
  exact ⟨c, s, n, w, p, ls, hn, hw, hp, hls, rfl⟩

set_option maxRecDepth 100000 in
theorem lmotsDigits_lifted (os : Os) (started : os.Started) (H : Type) (enc : TypeId × Value → H)
    (law : ∀ (code : BitVec 32) (c : BitVec 32) (s : Bool) (n w p ls : Int) (sum : List (BitVec 8)), i64ok n → i64ok w → i64ok p → i64ok ls → sum.length ≤ 140737488351232 →
      Fun Try.prog [] 3 [.u32 code, .agg [.u32 c, .b s, .i n, .i w, .i p, .i ls], Enc.enc sum] (.b true)) :
    ReturnsInHanded {} Try.checked os 3 .any (Rows.lmotsDigitsSpec.pre6 enc Try.prog Try.f3 Rows.lmotsDigitsRow.domain false) (Rows.lmotsDigitsSpec.post enc Try.prog Try.f3 false true false false) := by
  refine returnsInHanded_of_change_sized (C := Try.checked) Try.own started (by kernel_rfl) Try.func3
    (ChangeSpec.witness6 (enc := enc) (C := Try.checked) false ⟨#[], #[.int .u32 0, .agg #[.int .u32 0, .bool false, .int .i64 0, .int .i64 0, .int .i64 0, .int .i64 0], .slice none 0 0], []⟩ 8 (by kernel_rfl) (by kernel_rfl) (by kernel_rfl) (by kernel_rfl)) ?_
  intro W base args ds gs before hval hW _ hz _
  have hW' := hW
  obtain ⟨p, q, hA, hV, rfl, hfz, hnd⟩ := hW
  rw [Try.params3] at hA
  obtain ⟨v0, v1, v2, d0, d1, d2, p0, p1, p2, e1, rfl, rfl, h0, h1, h2⟩ := trodAll_three hA
  obtain ⟨rfl, rfl⟩ := trodVars_none hV
  have hwt : ∀ (j : Nat) (t : TypeId) (d : DataW H), (Try.f3.params.toList ++ DataSpec.varTypes Try.checked.prog Rows.lmotsDigitsSpec.plain)[j]? = some t → ([d0, d1, d2] ++ [])[j]? = some d → ∀ n ∈ d.weights Try.prog t, n ≤ reachBytes :=
    fun j t d ht hd n hn => of_decide_eq_true (List.all_eq_true.1 hz n (DataW.weights_mem_each ht hd n hn))
  obtain ⟨x0, ⟨code, _, k0⟩, g0⟩ := arg_one (.inl ⟨_, Try.underlying22⟩) op22 (hval 0 22 v0 rfl (by rw [e1]; rfl)) h0 (hwt 0 22 d0 rfl rfl)
  obtain ⟨x1, ⟨c, s, n, w, p, ls, b1, b2, b3, b4, k1⟩, g1⟩ := arg_agg (.inl ⟨_, Try.underlying24⟩) op24 (hval 1 24 v1 rfl (by rw [e1]; rfl)) h1 (hwt 1 24 d1 rfl rfl)
  obtain ⟨x2, ⟨sum, ⟨_, hs⟩, k2⟩, g2⟩ := arg_one (.inr (.inr ⟨_, Try.underlying25⟩)) op25 (hval 2 25 v2 rfl (by rw [e1]; rfl)) h2 (hwt 2 25 d2 rfl rfl)
  simp only [List.cons.injEq, and_true] at k0 k2
  subst k0 k1 k2
  refine (law_calls (law code c s n w p ls sum b1 b2 b3 b4 (by omega)) ?_).mono fun e W' ⟨he, hb⟩ => ⟨_, he, post_law rfl hW' rfl rfl rfl rfl Try.underlying4 hb Try.laidOut ?_⟩
  · rw [e1]; simp only [GL]; exact ⟨_, _, rfl, g0, _, _, rfl, g1, _, _, rfl, g2, rfl⟩
  · rw [Try.params3]; decide +kernel

theorem LmotsDigits_of (law : ∀ (code : BitVec 32) (c : BitVec 32) (s : Bool) (n w p ls : Int) (sum : List (BitVec 8)), i64ok n → i64ok w → i64ok p → i64ok ls → sum.length ≤ 140737488351232 →
      Fun Try.prog [] 3 [.u32 code, .agg [.u32 c, .b s, .i n, .i w, .i p, .i ls], Enc.enc sum] (.b true)) : Rows.LmotsDigitsSaid :=
  OpenClaim.holds_of_wide 3 Try.f3 rfl rfl rfl rfl rfl rfl rfl ⟨rfl, rfl, rfl, rfl, rfl⟩ rfl rfl rfl rfl rfl (by kernel_rfl) Try.func3 (by kernel_rfl)
    (of_decide_eq_true (by kernel_rfl)) (by unfold Func.isWrapper; first | (rw [if_pos (by decide +kernel)]; kernel_rfl) | (rw [if_neg (by decide +kernel)]; exact ⟨rfl, rfl⟩))
    (fun os started H enc _ => lmotsDigits_lifted os started H enc law)

theorem lmotsDigits_holds : Rows.LmotsDigitsSaid := LmotsDigits_of fun code c s n w p ls sum _ _ _ _ hs => LmotsDigits_fun code ⟨c, s, n, w, p, ls⟩ sum hs

end Go.Proofs.Ytlieeeembbjenaa
