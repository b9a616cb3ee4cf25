/- A part of the proof. -/
import Derived.Test.YtjehnljbhmjgoaaGreatDoorJu
import Derived.Test.YtjehnljbhmjgoaaGreatDoorGK
set_option linter.all false
namespace Go.Lv
open Go Go.Proofs
set_option linter.unusedSimpArgs false
set_option maxRecDepth 100000
set_option maxHeartbeats 4000000 in
theorem LmSigns_fun (k : LK) (q : BitVec 32) (msg : By) (hi : k.id.length = 16) (hsd : k.sd.length ≤ 140737488351232) (hmu : msg.length ≤ 140737488351232) : Fun Tryz.prog Gs 6 [.agg (lkC k), Enc.enc q, Enc.enc msg] (.b true) := by
  have hit : k.id.take 16 = k.id := List.take_of_length_le (by omega)
  have hct := ctLlive_ok (ctFewK_ok hi (ctLmSign_ok (ctRMayLeaf_ok (ctRSignL_ok (ctEqual_ok (CtOK_nil (P := Tryz.prog) (Gl := Gs)))))))
  refine Fun_cc [ctLlive, ct1 41 [.agg (lkC k)] (.b (fewB k)), ctLmSign 42, ctRMayLeaf, ctRSignL, ctEqual] mo Tryz.func6 (by decide) cc6 rs6 Tryz.ntmps6 (by simp) (AW_run hct 1000 ?_)
  cases hF : fewB k with
  | false => 
    simp (maxSteps := 10000000) (disch := omega) only [go_sem, c6, ctLlive, ct1, lkC, hi, hit, hF, reduceIte, seval, -BitVec.isValue, -BitVec.reduceOfNat, -List.reduceReplicate]
  | true =>
    by_cases hm : (2000 : Int) < msg.length
    · simp (maxSteps := 10000000) (disch := omega) only [go_sem, c6, ctLlive, ct1, lkC, hi, hit, hF, eq_true hm, reduceIte, seval, -BitVec.isValue, -BitVec.reduceOfNat, -List.reduceReplicate]
    have hm1 : msg.length ≤ 100000000 := by omega
    have hfH := fun h => few_H' hF h
    have hfI : mdE k.l k.o k.sd = 0 → k.l.h ≤ 4 := fun h => by have := hfH h; omega
    have hfJ := eq_true hfI
    have hfL := eq_true hfH
    by_cases h0 : atE k.l k.o k.sd q = 0
    · have hS : lsigR k.l k.o k.id k.sd q msg = .tup [Enc.ret (lsigS k q msg), .i 0] := by rw [lsigR, if_pos h0]
      obtain ⟨h1, hk, hq⟩ := atE_ok h0 hi
      have hH := hfH h1
      simp (maxSteps := 10000000) (disch := omega) only [go_sem, c6, ctLlive, ct1, ctLmSign, ctRMayLeaf, ctRSignL, ctEqual, lkC, hi, hit, hF, eq_false hm, hm1, hsd, hmu, hS, h0, h1, hk, hq, hH, reduceIte, seval, -BitVec.isValue, -BitVec.reduceOfNat, -List.reduceReplicate]
      try simp
    · have hS : lsigR k.l k.o k.id k.sd q msg = nilE (atE k.l k.o k.sd q) := by rw [lsigR, if_neg h0]
      obtain ⟨e, he⟩ : ∃ e, e = atE k.l k.o k.sd q := ⟨_, rfl⟩
      rw [← he] at h0 hS
      simp (maxSteps := 10000000) (disch := omega) only [go_sem, c6, ctLlive, ct1, ctLmSign, ctRMayLeaf, ctRSignL, ctEqual, lkC, hi, hit, hF, eq_false hm, hm1, hsd, hmu, hS, ← he, eq_false h0, hfJ, hfL, nilE, reduceIte, seval, -BitVec.isValue, -BitVec.reduceOfNat, -List.reduceReplicate]
      try simp
end Go.Lv
