/- A part of the proof (GF). -/
import Derived.Test.YtmpfooekljbhhaaDoorGQ
import Derived.Test.YtmpfooekljbhhaaDoorGK
set_option linter.all false
namespace Go.Lv
open Go Go.Proofs
set_option linter.unusedSimpArgs false
set_option maxRecDepth 100000

/-! ## Laws: keyed sums, digits -/
def sumV (x : Xms) (k : BitVec 64) (key m : By) : By := if xmsT x.code = some x then kyS x k key m else []
theorem sumR_eq (x : Xms) (k : BitVec 64) (key m : By) : sumR x k key m = Enc.ret (sumV x k key m) := by
  unfold sumR sumV; split <;> rfl
theorem few2 {a b : By} (h : fewP [a, b]) : a.length ≤ 5000 ∧ b.length ≤ 5000 := ⟨h a (by simp), h b (by simp)⟩
theorem few1 {a : By} (h : fewP [a]) : a.length ≤ 5000 := h a (by simp)
set_option maxHeartbeats 2000000 in
theorem WKeyed_fun (x : Xms) (key m : By) (ws : List (BitVec 32)) (_ : x.ok) (hk : key.length ≤ 140737488351232) (hm : m.length ≤ 140737488351232) (hw : ws.length = 8) :
    Fun Tryd.prog Gs 7 [Enc.enc x, Enc.enc key, Enc.enc m, Enc.enc (⟨ws⟩ : Ar (BitVec 32))] (.b true) := by
  have hbb := bb2 key m hk hm
  have hwt : ws.take 8 = ws := List.take_of_length_le (by omega)
  by_cases hf : fewP [key, m]
  · obtain ⟨f1, f2⟩ := few2 hf
    have hal : (adrS ws).length = 32 := by rw [adrS_len, hw]
    have hat : (adrS ws).take 32 = adrS ws := List.take_of_length_le (by omega)
    have n0 : BitVec.ofNat 64 (Int.toNat 0) = 0#64 := rfl
    have n1 : BitVec.ofNat 64 (Int.toNat 1) = 1#64 := rfl
    have n2 : BitVec.ofNat 64 (Int.toNat 2) = 2#64 := rfl
    have n3 : BitVec.ofNat 64 (Int.toNat 3) = 3#64 := rfl
    have n4 : BitVec.ofNat 64 (Int.toNat 4) = 4#64 := rfl
    have hct := mark_ok 15 (ctWlive_ok (ctFew_ok (ctWBytes_ok (ctWF_ok (ctWH_ok (ctWHMsg_ok (ctWPrf_ok (ctWPrfKeygen_ok (ctRWsum_ok (ctEqual_ok (ctRBytes8_ok (CtOK_nil (P := Tryd.prog) (Gl := Gs)))))))))))))
    refine Fun_cc _ mo Tryd.func7 (by decide) cc7 rs7 Tryd.ntmps7 (by simp) (AW_run hct 1000 ?_)
    simp (maxSteps := 10000000) (disch := omega) only [go_sem, c7, mark, ctWlive, ctFew, ctWBytes, ctWF, ctWH, ctWHMsg, ctWPrf, ctWPrfKeygen, ctRWsum, ctEqual, ctRBytes8, hbb, hf, hw, hwt, hal, hat, sumR_eq, n0, n1, n2, n3, n4, deL_cons, deL_nil, reduceIte, seval, -BitVec.isValue, -BitVec.reduceOfNat, -List.reduceReplicate]
    try simp
  · have hct := mark_ok 15 (ctWlive_ok (ctFew_ok (CtOK_nil (P := Tryd.prog) (Gl := Gs))))
    refine Fun_cc _ mo Tryd.func7 (by decide) cc7 rs7 Tryd.ntmps7 (by simp) (AW_run hct 1000 ?_)
    simp (maxSteps := 10000000) (disch := omega) only [go_sem, c7, mark, ctWlive, ctFew, hbb, hf, hw, deL_cons, deL_nil, reduceIte, seval, -BitVec.isValue, -BitVec.reduceOfNat, -List.reduceReplicate]
    try simp
end Go.Lv

namespace Go.Lv
open Go Go.Proofs
set_option linter.unusedSimpArgs false
set_option maxRecDepth 100000

/-! ## Whether two lists of numbers are the same -/
def σse (A B : List Int) (k : Nat) : St := ⟨[(0, Enc.enc A), (1, Enc.enc B), (12, .i A.length), (13, .i k)], [], 0⟩
set_option maxHeartbeats 1000000 in
theorem slEq_fun (A B : List Int) (hA : A.length ≤ 1000000000) : Fun Tryd.prog Gs 26 [Enc.enc A, Enc.enc B] (.b (decide (A = B))) := by
  refine Fun_cc [] mo Tryd.func26 (by decide) cc26 rs26 Tryd.ntmps26 (by simp) ?_
  by_cases hl : A.length = B.length
  · have hl' : (A.length : Int) = B.length := by omega
    refine AW_run CtOK_nil 1000 ?_
    simp (maxSteps := 10000000) (disch := omega) only [go_sem, c26, hl', reduceIte, seval, -BitVec.isValue, -BitVec.reduceOfNat, -List.reduceReplicate]
    refine AW_loop (σse A B) (fun k => k ≤ A.length ∧ ∀ j, j < k → A.getD j 0 = B.getD j 0) (fun k => A.length - k) 0 ⟨Nat.zero_le _, fun j hj => absurd hj (Nat.not_lt_zero j)⟩ (Wk_p [] ?_) fun k hk => ?_
    · simp only [go_sem, σse, reduceIte, seval, -BitVec.isValue, -BitVec.reduceOfNat, -List.reduceReplicate]
      try simp [hl]
    · obtain ⟨hk, hq⟩ := hk
      refine AW_run CtOK_nil 1000 ?_
      by_cases hc : k < A.length
      · have hc' : (k : Int) < A.length := by omega
        by_cases e : A.getD k 0 = B.getD k 0
        · simp (maxSteps := 10000000) (disch := omega) only [go_sem, σse, hc', eq_true e, reduceIte, seval, -BitVec.isValue, -BitVec.reduceOfNat, -List.reduceReplicate]
          refine ⟨k + 1, ⟨by omega, fun j hj => ?_⟩, Wk_p [] ?_, by omega⟩
          · by_cases e2 : j < k
            · exact hq j e2
            · rw [show j = k by omega]; exact e
          · simp only [go_sem, σse, reduceIte, seval, -BitVec.isValue, -BitVec.reduceOfNat, -List.reduceReplicate]
            try simp
        · have hn : decide (A = B) = false := decide_eq_false fun h => e (by rw [h])
          rw [hn]
          simp (maxSteps := 10000000) (disch := omega) only [go_sem, σse, hc', eq_false e, reduceIte, seval, -BitVec.isValue, -BitVec.reduceOfNat, -List.reduceReplicate]
          try simp
      · have : k = A.length := by omega
        subst this
        have hy : A = B := List.ext_getElem hl fun j h1 h2 => by
          have := hq j h1
          simpa [List.getD_eq_getElem?_getD, h1, h2] using this
        rw [decide_eq_true hy]
        simp (maxSteps := 10000000) (disch := omega) only [go_sem, σse, reduceIte, seval, -BitVec.isValue, -BitVec.reduceOfNat, -List.reduceReplicate]
        try simp
  · have hl' : ¬ (A.length : Int) = B.length := by omega
    rw [decide_eq_false fun h => hl (by rw [h])]
    refine AW_run CtOK_nil 1000 ?_
    simp (maxSteps := 10000000) (disch := omega) only [go_sem, c26, eq_false hl', reduceIte, seval, -BitVec.isValue, -BitVec.reduceOfNat, -List.reduceReplicate]
    try simp
def ctSlEq : Nat × (List AV → R) := (26, A2 fun A B : List Int => (A.length ≤ 1000000000, .b (decide (A = B))))
theorem ctSlEq_ok {Ct : List (Nat × (List AV → R))} (h : CtOK Tryd.prog Gs Ct) : CtOK Tryd.prog Gs (ctSlEq :: Ct) := CtOK_cons (Row2 fun A B h => slEq_fun A B h) h
@[go_sem] theorem xms_eta (x : Xms) : Xms.mk x.code x.shake x.n x.h x.len = x := rfl
def digV (x : Xms) (m : By) : List Int := if wmayE x [m] = 0 then digsS m else []
theorem digR_eq (x : Xms) (m : By) : digR x m = .tup [Enc.ret (digV x m), .i (wmayE x [m])] := by
  unfold digR digV; split
  · rename_i h; rw [h]
  · rfl
theorem digV_len (x : Xms) (m : By) (h : m.length ≤ 5000) : (digV x m).length ≤ 10003 := by
  unfold digV; split
  · rw [digsS_len]; omega
  · simp
theorem bbo1 (a : By) (ha : a.length ≤ 140737488351232) : bbOK [a] := bb1 a ha
set_option maxHeartbeats 2000000 in
theorem WLDigits_fun (x : Xms) (m : By) (_ : x.ok) (hm : m.length ≤ 140737488351232) :
    Fun Tryd.prog Gs 5 [Enc.enc x, Enc.enc m] (.b true) := by
  have hbb := bb1 m hm
  by_cases hf : fewP [m]
  · have f1 := few1 hf
    have hdl := digV_len x m f1
    have hct := mark_ok 13 (ctWlive_ok (ctFew_ok (ctWDigits_ok (ctRWDigits_ok (ctSlEq_ok (CtOK_nil (P := Tryd.prog) (Gl := Gs)))))))
    refine Fun_cc _ mo Tryd.func5 (by decide) cc5 rs5 Tryd.ntmps5 (by simp) (AW_run hct 1000 ?_)
    simp (maxSteps := 10000000) (disch := omega) only [go_sem, c5, mark, ctWlive, ctFew, ctWDigits, ctRWDigits, ctSlEq, digR_eq, hbb, hf, deL_cons, deL_nil, reduceIte, seval, -BitVec.isValue, -BitVec.reduceOfNat, -List.reduceReplicate]
    try simp
  · have hct := mark_ok 13 (ctWlive_ok (ctFew_ok (CtOK_nil (P := Tryd.prog) (Gl := Gs))))
    refine Fun_cc _ mo Tryd.func5 (by decide) cc5 rs5 Tryd.ntmps5 (by simp) (AW_run hct 1000 ?_)
    simp (maxSteps := 10000000) (disch := omega) only [go_sem, c5, mark, ctWlive, ctFew, hbb, hf, deL_cons, deL_nil, reduceIte, seval, -BitVec.isValue, -BitVec.reduceOfNat, -List.reduceReplicate]
    try simp
end Go.Lv

