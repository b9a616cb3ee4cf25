/- A part of the proof. -/
import Derived.Test.YtmpfooekljbhhaaDoorGF
import Derived.Test.YtmpfooekljbhhaaDoorGK
set_option linter.all false
namespace Go.Lv
open Go Go.Proofs
set_option linter.unusedSimpArgs false
set_option maxRecDepth 100000

def lessB (m o : By) (k : Nat) : Bool := (List.range k).any fun i => decide ((digsS m).getD i 0 < (digsS o).getD i 0)
theorem lessB_succ (m o : By) (k : Nat) : lessB m o (k + 1) = (lessB m o k || decide ((digsS m).getD k 0 < (digsS o).getD k 0)) := by simp [lessB, List.range_succ]
theorem lessB_iff (m o : By) (k : Nat) : lessB m o k = true ↔ lessP m o k := by simp [lessB, lessP, List.any_eq_true]
theorem lessB_all (m o : By) (hl : m.length = o.length) : lessB m o (2 * m.length + 3) = !decide (m = o) := by
  have h1 := lessB_iff m o (2 * m.length + 3)
  have h2 := less_iff m o hl
  by_cases e : m = o
  · rw [decide_eq_true e]; exact Bool.eq_false_iff.2 fun h => (h2.1 (h1.1 h)) e
  · rw [decide_eq_false e]; exact h1.2 (h2.2 e)
def σbl (m o : By) (A B : List Int) (k : Nat) : St := ⟨[(1, Enc.enc m), (2, Enc.enc o), (7, Enc.ret A), (9, Enc.ret B), (11, .b (lessB m o k)), (12, .b (lessB o m k)), (65, .i A.length), (66, .i k)], [], 0⟩
set_option maxHeartbeats 2000000 in
theorem WBelow_fun (x : Xms) (m o : By) (_ : x.ok) (hm : m.length ≤ 140737488351232) (ho : o.length ≤ 140737488351232) :
    Fun Tryd.prog Gs 6 [Enc.enc x, Enc.enc m, Enc.enc o] (.b true) := by
  have hbb := bb2 m o hm ho
  by_cases hf : fewP [m, o]
  · obtain ⟨f1, f2⟩ := few2 hf
    have hct := mark_ok 19 (ctWlive_ok (ctFew_ok (ctWDigits_ok (ctSlEq_ok (ctEqual_ok (CtOK_nil (P := Tryd.prog) (Gl := Gs)))))))
    refine Fun_cc [mark 19, ctWlive, ctFew, ctWDigits, ctSlEq, ctEqual] mo Tryd.func6 (by decide) cc6 rs6 Tryd.ntmps6 (by simp) ?_
    by_cases h1 : wmayE x [m] = 0
    · have d1 : digV x m = digsS m := by rw [digV, if_pos h1]
      by_cases h2 : wmayE x [o] = 0
      · have d2 : digV x o = digsS o := by rw [digV, if_pos h2]
        have l1 := (wmayE_zero h1).2 m (by simp)
        have l2 := (wmayE_zero h2).2 o (by simp)
        have hl : m.length = o.length := by omega
        have z1 := digsS_len m
        have z2 := digsS_len o
        have hinj : decide (digsS m = digsS o) = decide (m = o) := decide_eq_decide.2 (digsS_inj m o hl)
        have a1 := lessB_all m o hl
        have a2 := lessB_all o m hl.symm
        rw [show decide (o = m) = decide (m = o) from decide_eq_decide.2 eq_comm] at a2
        rw [← z1] at a1
        rw [← z2] at a2
        have hz : (digsS m).length = (digsS o).length := by omega
        rw [← hz] at a2
        refine AW_run hct 1000 ?_
        simp (maxSteps := 10000000) (disch := omega) only [go_sem, c6, mark, ctWlive, ctFew, ctWDigits, ctSlEq, ctEqual, digR_eq, h1, h2, d1, d2, hinj, hz, hbb, hf, deL_cons, deL_nil, reduceIte, seval, -BitVec.isValue, -BitVec.reduceOfNat, -List.reduceReplicate]
        rw [← hz]
        obtain ⟨A, hA⟩ : ∃ A, A = digsS m := ⟨_, rfl⟩
        obtain ⟨B, hB⟩ : ∃ B, B = digsS o := ⟨_, rfl⟩
        refine AW_loop (σbl m o (digsS m) (digsS o)) (fun k => k ≤ (digsS m).length) (fun k => (digsS m).length - k) 0 (Nat.zero_le _) (Wk_p [] ?_) fun k hk => ?_
        · simp only [go_sem, σbl, reduceIte, seval, -BitVec.isValue, -BitVec.reduceOfNat, -List.reduceReplicate]
          simp [lessB, hz]
        · by_cases hc : k < (digsS m).length
          · have hc' : (k : Int) < (digsS m).length := by omega
            have s1 := lessB_succ m o k
            have s2 := lessB_succ o m k
            obtain ⟨p, hp⟩ : ∃ p, p = lessB m o k := ⟨_, rfl⟩
            obtain ⟨q, hq⟩ : ∃ q, q = lessB o m k := ⟨_, rfl⟩
            rw [← hp] at s1
            rw [← hq] at s2
            rcases p with _ | _ <;> rcases q with _ | _ <;> (
              simp only [Bool.false_or, Bool.true_or] at s1 s2
              refine AW_ct [] (AW_run (CtOK_nil (P := Tryd.prog) (Gl := Gs)) 1000 ?_)
              simp (maxSteps := 10000000) (disch := omega) only [go_sem, σbl, ← hp, ← hq, hc', ← hz, reduceIte, seval, -BitVec.isValue, -BitVec.reduceOfNat, -List.reduceReplicate]
              refine ⟨k + 1, by omega, Wk_p [] ?_, by omega⟩
              simp only [go_sem, σbl, s1, s2, reduceIte, seval, -BitVec.isValue, -BitVec.reduceOfNat, -List.reduceReplicate]
              try simp)
          · have : k = (digsS m).length := by omega
            subst this
            refine AW_ct [ctEqual] (AW_run (ctEqual_ok (CtOK_nil (P := Tryd.prog) (Gl := Gs))) 1000 ?_)
            by_cases e : m = o
            · rw [decide_eq_true e] at a1 a2
              simp (maxSteps := 10000000) (disch := omega) only [go_sem, σbl, ctEqual, a1, a2, ← hz, eq_true e, reduceIte, seval, -BitVec.isValue, -BitVec.reduceOfNat, -List.reduceReplicate]
              try simp
            · rw [decide_eq_false e] at a1 a2
              simp (maxSteps := 10000000) (disch := omega) only [go_sem, σbl, ctEqual, a1, a2, ← hz, eq_false e, reduceIte, seval, -BitVec.isValue, -BitVec.reduceOfNat, -List.reduceReplicate]
              try simp
      · have d2 : digV x o = [] := by rw [digV, if_neg h2]
        have hne : ¬ digsS m = [] := fun h => by have := digsS_len m; rw [h] at this; simp at this
        have hz0 : ¬ ((digsS m).length : Int) = 0 := by rw [digsS_len]; omega
        obtain ⟨e, he⟩ : ∃ e, e = wmayE x [o] := ⟨_, rfl⟩
        rw [← he] at h2
        refine AW_run hct 1000 ?_
        simp (maxSteps := 10000000) (disch := omega) only [go_sem, c6, mark, ctWlive, ctFew, ctWDigits, ctSlEq, ctEqual, digR_eq, h1, ← he, eq_false h2, eq_false hz0, eq_false hne, d1, d2, hbb, hf, deL_cons, deL_nil, reduceIte, seval, -BitVec.isValue, -BitVec.reduceOfNat, -List.reduceReplicate]
        try simp
    · have d1 : digV x m = [] := by rw [digV, if_neg h1]
      obtain ⟨e, he⟩ : ∃ e, e = wmayE x [m] := ⟨_, rfl⟩
      rw [← he] at h1
      refine AW_run hct 1000 ?_
      simp (maxSteps := 10000000) (disch := omega) only [go_sem, c6, mark, ctWlive, ctFew, ctWDigits, ctSlEq, ctEqual, digR_eq, ← he, eq_false h1, d1, hbb, hf, deL_cons, deL_nil, reduceIte, seval, -BitVec.isValue, -BitVec.reduceOfNat, -List.reduceReplicate]
      try simp
  · have hct := mark_ok 19 (ctWlive_ok (ctFew_ok (CtOK_nil (P := Tryd.prog) (Gl := Gs))))
    refine Fun_cc _ mo Tryd.func6 (by decide) cc6 rs6 Tryd.ntmps6 (by simp) (AW_run hct 1000 ?_)
    simp (maxSteps := 10000000) (disch := omega) only [go_sem, c6, mark, ctWlive, ctFew, hbb, hf, deL_cons, deL_nil, reduceIte, seval, -BitVec.isValue, -BitVec.reduceOfNat, -List.reduceReplicate]
    try simp
end Go.Lv
