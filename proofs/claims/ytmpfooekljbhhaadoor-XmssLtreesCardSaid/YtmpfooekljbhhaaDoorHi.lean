/- A part of the proof. -/
import Derived.Test.YtmpfooekljbhhaaDoorHh
import Derived.Test.YtmpfooekljbhhaaDoorGK
set_option linter.all false
namespace Go.Lv
open Go Go.Proofs
set_option linter.unusedSimpArgs false
set_option maxRecDepth 100000

/-! ## Law: the text of many -/
def xltE (x : Xms) (seed en : By) : Int := if wmayE x [seed] = 0 then (if (en.length : Int) = x.len * x.n then 0 else 1) else wmayE x [seed]
def xltR (x : Xms) (seed en : By) (leaf : BitVec 32) : AV := if xltE x seed en = 0 then .tup [Enc.enc (ltreeS x seed en leaf), .i 0] else .tup [.ros true 0 [], .i (xltE x seed en)]
set_option maxHeartbeats 2000000 in
theorem XLtree_fun (x : Xms) (seed en : By) (leaf : BitVec 32) (hs : seed.length ≤ 140737488351232) (he : en.length ≤ 140737488351232) :
    Fun Tryd.prog Gs 37 [Enc.enc x, Enc.enc seed, Enc.enc en, Enc.enc leaf] (xltR x seed en leaf) := by
  have hbb := bb1 seed hs
  by_cases h : wmayE x [seed] = 0
  · obtain ⟨hx, hp⟩ := wmayE_zero h
    have h1 := hp seed (by simp)
    have hn : 0 ≤ x.n ∧ x.n ≤ 32 := by rcases xmsT_n hx with ⟨h, _⟩ | ⟨h, _⟩ <;> omega
    have hnl : x.len * x.n ≤ 2144 ∧ 0 ≤ x.len * x.n := by rcases xmsT_n hx with ⟨h1, h2⟩ | ⟨h1, h2⟩ <;> rw [h1, h2] <;> omega
    by_cases hl : (en.length : Int) = x.len * x.n
    · have hE : xltE x seed en = 0 := by rw [xltE, if_pos h, if_pos hl]
      rw [xltR, if_pos hE]
      have hct := mark_ok 13 (ctXmay_ok (ctLtree_ok (CtOK_nil (P := Tryd.prog) (Gl := Gs))))
      refine Fun_cc _ mo Tryd.func37 (by decide) cc37 rs37 Tryd.ntmps37 (by simp) (AW_run hct 1000 ?_)
      simp (maxSteps := 10000000) (disch := omega) only [go_sem, c37, mark, ctXmay, ctLtree, xmC, h, hx, hbb, eq_true hl, hl, deL_cons, deL_nil, reduceIte, seval, -BitVec.isValue, -BitVec.reduceOfNat, -List.reduceReplicate]
      try simp
    · have hE : xltE x seed en = 1 := by rw [xltE, if_pos h, if_neg hl]
      rw [xltR, hE, if_neg (by decide)]
      have hct := mark_ok 13 (ctXmay_ok (CtOK_nil (P := Tryd.prog) (Gl := Gs)))
      refine Fun_cc _ mo Tryd.func37 (by decide) cc37 rs37 Tryd.ntmps37 (by simp) (AW_run hct 1000 ?_)
      simp (maxSteps := 10000000) (disch := omega) only [go_sem, c37, mark, ctXmay, xmC, h, hbb, eq_false hl, deL_cons, deL_nil, reduceIte, seval, -BitVec.isValue, -BitVec.reduceOfNat, -List.reduceReplicate]
      try simp
  · have hE : xltE x seed en = wmayE x [seed] := by rw [xltE, if_neg h]
    rw [xltR, hE, if_neg h]
    obtain ⟨e, he⟩ : ∃ e, e = wmayE x [seed] := ⟨_, rfl⟩
    rw [← he] at h ⊢
    have hct := mark_ok 13 (ctXmay_ok (CtOK_nil (P := Tryd.prog) (Gl := Gs)))
    refine Fun_cc _ mo Tryd.func37 (by decide) cc37 rs37 Tryd.ntmps37 (by simp) (AW_run hct 1000 ?_)
    simp (maxSteps := 10000000) (disch := omega) only [go_sem, c37, mark, ctXmay, ← he, eq_false h, hbb, deL_cons, deL_nil, reduceIte, seval, -BitVec.isValue, -BitVec.reduceOfNat, -List.reduceReplicate]
    try simp
def ctXLtree : Nat × (List AV → R) := (37, A4 fun (x : Xms) (seed en : By) (leaf : BitVec 32) => (seed.length ≤ 140737488351232 ∧ en.length ≤ 140737488351232, xltR x seed en leaf))
theorem ctXLtree_ok {Ct : List (Nat × (List AV → R))} (h : CtOK Tryd.prog Gs Ct) : CtOK Tryd.prog Gs (ctXLtree :: Ct) := CtOK_cons (Row4 fun x seed en leaf h => XLtree_fun x seed en leaf h.1 h.2) h
set_option maxHeartbeats 2000000 in
theorem XLtrees_fun (c : BitVec 32) (seed en : By) (leaf : BitVec 32) (hs : seed.length ≤ 140737488351232) (he : en.length ≤ 140737488351232) :
    Fun Tryd.prog Gs 9 [Enc.enc c, Enc.enc seed, Enc.enc en, Enc.enc leaf] (.b true) := by
  have hbb := bb1 seed hs
  obtain ⟨x, hxe⟩ : ∃ x, x = setX c := ⟨_, rfl⟩
  by_cases h : wmayE x [seed] = 0
  · obtain ⟨hx, hp⟩ := wmayE_zero h
    have h1 := hp seed (by simp)
    have hn : 0 ≤ x.n ∧ x.n ≤ 32 := by rcases xmsT_n hx with ⟨h, _⟩ | ⟨h, _⟩ <;> omega
    have hnl : x.len * x.n ≤ 2144 ∧ 0 ≤ x.len * x.n := by rcases xmsT_n hx with ⟨h1, h2⟩ | ⟨h1, h2⟩ <;> rw [h1, h2] <;> omega
    by_cases hl : (en.length : Int) = x.len * x.n
    · have hE : xltE x seed en = 0 := by rw [xltE, if_pos h, if_pos hl]
      have hR : xltR x seed en leaf = .tup [Enc.enc (ltreeS x seed en leaf), .i 0] := by rw [xltR, if_pos hE]
      have hct := mark_ok 25 (ctXSetL_ok (ctXLtree_ok (ctRXmay_ok (ctXlive_ok (ctRLtree_ok (ctEqual_ok (CtOK_nil (P := Tryd.prog) (Gl := Gs))))))))
      refine Fun_cc _ mo Tryd.func9 (by decide) cc9 rs9 Tryd.ntmps9 (by simp) (AW_run hct 1000 ?_)
      simp (maxSteps := 10000000) (disch := omega) only [go_sem, c9, mark, ctXSetL, ctXLtree, ctRXmay, ctXlive, ctRLtree, ctEqual, ← hxe, xmC, hbb, h, hx, hR, eq_true hl, hl, deL_cons, deL_nil, reduceIte, seval, -BitVec.isValue, -BitVec.reduceOfNat, -List.reduceReplicate]
      try simp
    · have hE : xltE x seed en = 1 := by rw [xltE, if_pos h, if_neg hl]
      have hR : xltR x seed en leaf = .tup [.ros true 0 [], .i 1] := by rw [xltR, hE, if_neg (by decide)]
      have hct := mark_ok 25 (ctXSetL_ok (ctXLtree_ok (ctRXmay_ok (ctXlive_ok (CtOK_nil (P := Tryd.prog) (Gl := Gs))))))
      refine Fun_cc _ mo Tryd.func9 (by decide) cc9 rs9 Tryd.ntmps9 (by simp) (AW_run hct 1000 ?_)
      simp (maxSteps := 10000000) (disch := omega) only [go_sem, c9, mark, ctXSetL, ctXLtree, ctRXmay, ctXlive, ← hxe, xmC, hbb, h, hx, hR, eq_false hl, deL_cons, deL_nil, reduceIte, seval, -BitVec.isValue, -BitVec.reduceOfNat, -List.reduceReplicate]
      try simp
  · obtain ⟨e, hee⟩ : ∃ e, e = wmayE x [seed] := ⟨_, rfl⟩
    have hE : xltE x seed en = e := by rw [xltE, if_neg h, hee]
    rw [← hee] at h
    have hR : xltR x seed en leaf = .tup [.ros true 0 [], .i e] := by rw [xltR, hE, if_neg h]
    have hct := mark_ok 25 (ctXSetL_ok (ctXLtree_ok (ctRXmay_ok (ctXlive_ok (CtOK_nil (P := Tryd.prog) (Gl := Gs))))))
    refine Fun_cc _ mo Tryd.func9 (by decide) cc9 rs9 Tryd.ntmps9 (by simp) (AW_run hct 1000 ?_)
    simp (maxSteps := 10000000) (disch := omega) only [go_sem, c9, mark, ctXSetL, ctXLtree, ctRXmay, ctXlive, ← hxe, xmC, hbb, ← hee, eq_false h, hR, deL_cons, deL_nil, reduceIte, seval, -BitVec.isValue, -BitVec.reduceOfNat, -List.reduceReplicate]
    try simp
end Go.Lv
