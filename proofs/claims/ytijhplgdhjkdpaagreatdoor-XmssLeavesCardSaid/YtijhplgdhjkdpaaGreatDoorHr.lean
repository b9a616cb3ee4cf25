/- A part of the proof. -/
import Derived.Test.YtijhplgdhjkdpaaGreatDoorGI
import Derived.Test.YtijhplgdhjkdpaaGreatDoorGK
set_option linter.all false
namespace Go.Lv
open Go Go.Proofs
set_option linter.unusedSimpArgs false
set_option maxRecDepth 100000

/-! ## Law: leaves -/
set_option maxHeartbeats 2000000 in
theorem XLeaves_fun (c : BitVec 32) (k : XKey) (i : BitVec 32) (hk : k.ok) :
    Fun Tryz.prog Gs 3 [Enc.enc c, Enc.enc k, Enc.enc i] (.b true) := by
  obtain ⟨x, hxe⟩ : ∃ x, x = setX c := ⟨_, rfl⟩
  have hct := ctXSetL_ok (ctXLeaf_ok (ctRMayLeaf_ok (ctXlive_ok (ctRXLeaf_ok (ctEqual_ok (CtOK_nil (P := Tryz.prog) (Gl := Gs)))))))
  refine Fun_cc _ mo Tryz.func3 (by decide) cc3 rs3 Tryz.ntmps3 (by simp) (AW_run hct 1000 ?_)
  by_cases h : mlE x k i = 0
  · have hK := mkE_zero (mlE_zero h).1
    have hR : xlfR x k i = .tup [Enc.enc (leafS x k.seed k.pub i), .i 0] := by rw [xlfR, if_pos h]
    simp (maxSteps := 10000000) (disch := omega) only [go_sem, c3, ctXSetL, ctXLeaf, mlA, ctXlive, ctRXLeaf, ctEqual, ← hxe, xmC, hk, h, hK, hR, reduceIte, seval, -BitVec.isValue, -BitVec.reduceOfNat, -List.reduceReplicate]
    try simp
  · obtain ⟨e, he⟩ : ∃ e, e = mlE x k i := ⟨_, rfl⟩
    have hR : xlfR x k i = .tup [.ros true 0 [], .i e] := by rw [xlfR, if_neg h, he]
    rw [← he] at h
    simp (maxSteps := 10000000) (disch := omega) only [go_sem, c3, ctXSetL, ctXLeaf, mlA, ctXlive, ctRXLeaf, ctEqual, ← hxe, xmC, hk, ← he, eq_false h, hR, reduceIte, seval, -BitVec.isValue, -BitVec.reduceOfNat, -List.reduceReplicate]
    try simp
end Go.Lv
