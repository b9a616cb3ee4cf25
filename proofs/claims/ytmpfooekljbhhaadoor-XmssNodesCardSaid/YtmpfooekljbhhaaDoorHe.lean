/- A part of the proof. -/
import Derived.Test.YtmpfooekljbhhaaDoorGH
import Derived.Test.YtmpfooekljbhhaaDoorGK
set_option linter.all false
namespace Go.Lv
open Go Go.Proofs
set_option linter.unusedSimpArgs false
set_option maxRecDepth 100000

theorem nodV_ok {x : Xms} {seed l r : By} {ws : List (BitVec 32)} (h : wmayE x [seed, l, r] = 0) : nodV x seed ws l r = nodeS x seed ws l r := by rw [nodV, if_pos h]
theorem nodV_no {x : Xms} {seed l r : By} {ws : List (BitVec 32)} (h : ¬ wmayE x [seed, l, r] = 0) : nodV x seed ws l r = [] := by rw [nodV, if_neg h]
set_option maxHeartbeats 2000000 in
theorem XNodes_fun (c : BitVec 32) (seed : By) (ws : List (BitVec 32)) (l r : By) (hs : seed.length ≤ 140737488351232) (hw : ws.length = 8) (hl : l.length ≤ 140737488351232) (hr : r.length ≤ 140737488351232) :
    Fun Tryd.prog Gs 3 [Enc.enc c, Enc.enc seed, Enc.enc (⟨ws⟩ : Ar (BitVec 32)), Enc.enc l, Enc.enc r] (.b true) := by
  have hbb := bb3 seed l r hs hl hr
  have hwt : ws.take 8 = ws := List.take_of_length_le (by omega)
  obtain ⟨x, hxe⟩ : ∃ x, x = setX c := ⟨_, rfl⟩
  by_cases h : wmayE x [seed, l, r] = 0
  · obtain ⟨hx, hp⟩ := wmayE_zero h
    have h1 := hp seed (by simp)
    have h2 := hp l (by simp)
    have h3 := hp r (by simp)
    have hn : 0 ≤ x.n ∧ x.n ≤ 32 := by rcases xmsT_n hx with ⟨h, _⟩ | ⟨h, _⟩ <;> omega
    have g2 : l.length = x.n.toNat := by omega
    have g3 : r.length = x.n.toNat := by omega
    have hct := mark_ok 30 (ctXSetL_ok (ctXNode_ok (ctRXmay_ok (ctXlive_ok (ctRNode_ok (ctEqual_ok (CtOK_nil (P := Tryd.prog) (Gl := Gs))))))))
    refine Fun_cc _ mo Tryd.func3 (by decide) cc3 rs3 Tryd.ntmps3 (by simp) (AW_run hct 1000 ?_)
    simp (maxSteps := 10000000) (disch := omega) only [go_sem, c3, mark, ctXSetL, ctXNode, ctRXmay, ctXlive, ctRNode, ctEqual, ← hxe, xmC, hbb, hw, hwt, h, hx, nodV_ok h, deL_cons, deL_nil, reduceIte, seval, -BitVec.isValue, -BitVec.reduceOfNat, -List.reduceReplicate]
    try simp
  · obtain ⟨e, he⟩ : ∃ e, e = wmayE x [seed, l, r] := ⟨_, rfl⟩
    have hv := nodV_no (ws := ws) h
    rw [← he] at h
    have hct := mark_ok 30 (ctXSetL_ok (ctXNode_ok (ctRXmay_ok (ctXlive_ok (CtOK_nil (P := Tryd.prog) (Gl := Gs))))))
    refine Fun_cc _ mo Tryd.func3 (by decide) cc3 rs3 Tryd.ntmps3 (by simp) (AW_run hct 1000 ?_)
    simp (maxSteps := 10000000) (disch := omega) only [go_sem, c3, mark, ctXSetL, ctXNode, ctRXmay, ctXlive, ← hxe, xmC, hbb, hw, hwt, ← he, eq_false h, hv, deL_cons, deL_nil, reduceIte, seval, -BitVec.isValue, -BitVec.reduceOfNat, -List.reduceReplicate]
    try simp
end Go.Lv
