/- A part of the proof. -/
import Derived.Test.YtmpfooekljbhhaaDoorGG
import Derived.Test.YtmpfooekljbhhaaDoorGF
import Derived.Test.YtmpfooekljbhhaaDoorGK
set_option linter.all false
namespace Go.Lv
open Go Go.Proofs
set_option linter.unusedSimpArgs false
set_option maxRecDepth 100000

/-! ## Laws: where chains end, signatures -/
theorem few3 {a b c : By} (h : fewP [a, b, c]) : a.length ≤ 5000 ∧ b.length ≤ 5000 ∧ c.length ≤ 5000 := ⟨h a (by simp), h b (by simp), h c (by simp)⟩
set_option maxHeartbeats 2000000 in
theorem WLPublic_fun (x : Xms) (sk seed : By) (ws : List (BitVec 32)) (_ : x.ok) (h0 : sk.length ≤ 140737488351232) (h1 : seed.length ≤ 140737488351232) (hw : ws.length = 8) :
    Fun Tryd.prog Gs 11 [Enc.enc x, Enc.enc sk, Enc.enc seed, Enc.enc (⟨ws⟩ : Ar (BitVec 32))] (.b true) := by
  have hbb := bb2 sk seed h0 h1
  have hwt : ws.take 8 = ws := List.take_of_length_le (by omega)
  by_cases hf : fewP [sk, seed]
  · obtain ⟨f0, f1⟩ := few2 hf
    have hct := mark_ok 18 (ctWlive_ok (ctFew_ok (ctWPublic_ok (ctRWPublic_ok (ctEqual_ok (CtOK_nil (P := Tryd.prog) (Gl := Gs)))))))
    refine Fun_cc _ mo Tryd.func11 (by decide) cc11 rs11 Tryd.ntmps11 (by simp) (AW_run hct 1000 ?_)
    simp (maxSteps := 10000000) (disch := omega) only [go_sem, c11, mark, ctWlive, ctFew, ctWPublic, ctRWPublic, ctEqual, hbb, hf, hw, hwt, deL_cons, deL_nil, reduceIte, seval, -BitVec.isValue, -BitVec.reduceOfNat, -List.reduceReplicate]
    try simp
  · have hct := mark_ok 18 (ctWlive_ok (ctFew_ok (CtOK_nil (P := Tryd.prog) (Gl := Gs))))
    refine Fun_cc _ mo Tryd.func11 (by decide) cc11 rs11 Tryd.ntmps11 (by simp) (AW_run hct 1000 ?_)
    simp (maxSteps := 10000000) (disch := omega) only [go_sem, c11, mark, ctWlive, ctFew, hbb, hf, hw, deL_cons, deL_nil, reduceIte, seval, -BitVec.isValue, -BitVec.reduceOfNat, -List.reduceReplicate]
    try simp
set_option maxHeartbeats 2000000 in
theorem WLSigns_fun (x : Xms) (sk seed m : By) (ws : List (BitVec 32)) (_ : x.ok) (h0 : sk.length ≤ 140737488351232) (h1 : seed.length ≤ 140737488351232) (h2 : m.length ≤ 140737488351232) (hw : ws.length = 8) :
    Fun Tryd.prog Gs 12 [Enc.enc x, Enc.enc sk, Enc.enc seed, Enc.enc m, Enc.enc (⟨ws⟩ : Ar (BitVec 32))] (.b true) := by
  have hbb := bb3 sk seed m h0 h1 h2
  have hwt : ws.take 8 = ws := List.take_of_length_le (by omega)
  by_cases hf : fewP [sk, seed, m]
  · obtain ⟨f0, f1, f2⟩ := few3 hf
    have hct := mark_ok 21 (ctWlive_ok (ctFew_ok (ctWSign_ok (ctRWSign_ok (ctEqual_ok (CtOK_nil (P := Tryd.prog) (Gl := Gs)))))))
    refine Fun_cc _ mo Tryd.func12 (by decide) cc12 rs12 Tryd.ntmps12 (by simp) (AW_run hct 1000 ?_)
    simp (maxSteps := 10000000) (disch := omega) only [go_sem, c12, mark, ctWlive, ctFew, ctWSign, ctRWSign, ctEqual, hbb, hf, hw, hwt, deL_cons, deL_nil, reduceIte, seval, -BitVec.isValue, -BitVec.reduceOfNat, -List.reduceReplicate]
    try simp
  · have hct := mark_ok 21 (ctWlive_ok (ctFew_ok (CtOK_nil (P := Tryd.prog) (Gl := Gs))))
    refine Fun_cc _ mo Tryd.func12 (by decide) cc12 rs12 Tryd.ntmps12 (by simp) (AW_run hct 1000 ?_)
    simp (maxSteps := 10000000) (disch := omega) only [go_sem, c12, mark, ctWlive, ctFew, hbb, hf, hw, deL_cons, deL_nil, reduceIte, seval, -BitVec.isValue, -BitVec.reduceOfNat, -List.reduceReplicate]
    try simp
set_option maxHeartbeats 2000000 in
theorem WLOn_fun (x : Xms) (seed m sig : By) (ws : List (BitVec 32)) (_ : x.ok) (h0 : seed.length ≤ 140737488351232) (h1 : m.length ≤ 140737488351232) (h2 : sig.length ≤ 140737488351232) (hw : ws.length = 8) :
    Fun Tryd.prog Gs 8 [Enc.enc x, Enc.enc seed, Enc.enc m, Enc.enc sig, Enc.enc (⟨ws⟩ : Ar (BitVec 32))] (.b true) := by
  have hbb := bb3 seed m sig h0 h1 h2
  have hwt : ws.take 8 = ws := List.take_of_length_le (by omega)
  by_cases hf : fewP [seed, m, sig]
  · obtain ⟨f0, f1, f2⟩ := few3 hf
    have hct := mark_ok 21 (ctWlive_ok (ctFew_ok (ctWOn_ok (ctROn_ok (ctEqual_ok (CtOK_nil (P := Tryd.prog) (Gl := Gs)))))))
    refine Fun_cc _ mo Tryd.func8 (by decide) cc8 rs8 Tryd.ntmps8 (by simp) (AW_run hct 1000 ?_)
    simp (maxSteps := 10000000) (disch := omega) only [go_sem, c8, mark, ctWlive, ctFew, wonA, ctEqual, hbb, hf, hw, hwt, deL_cons, deL_nil, reduceIte, seval, -BitVec.isValue, -BitVec.reduceOfNat, -List.reduceReplicate]
    try simp
  · have hct := mark_ok 21 (ctWlive_ok (ctFew_ok (CtOK_nil (P := Tryd.prog) (Gl := Gs))))
    refine Fun_cc _ mo Tryd.func8 (by decide) cc8 rs8 Tryd.ntmps8 (by simp) (AW_run hct 1000 ?_)
    simp (maxSteps := 10000000) (disch := omega) only [go_sem, c8, mark, ctWlive, ctFew, hbb, hf, hw, deL_cons, deL_nil, reduceIte, seval, -BitVec.isValue, -BitVec.reduceOfNat, -List.reduceReplicate]
    try simp
end Go.Lv
