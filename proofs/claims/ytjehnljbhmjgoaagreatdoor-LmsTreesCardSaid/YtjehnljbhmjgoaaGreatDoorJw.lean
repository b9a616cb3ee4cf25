/- A part of the proof. -/
import Derived.Test.YtjehnljbhmjgoaaGreatDoorJu
import Derived.Test.YtjehnljbhmjgoaaGreatDoorGK
set_option linter.all false
namespace Go.Lv
open Go Go.Proofs
set_option linter.unusedSimpArgs false
set_option maxRecDepth 100000
set_option maxHeartbeats 8000000 in
theorem LmTrees_fun (k : LK) (q : BitVec 32) (hi : k.id.length = 16) (hsd : k.sd.length ≤ 140737488351232) : Fun Tryz.prog Gs 8 [.agg (lkC k), Enc.enc q] (.b true) := by
  have hit : k.id.take 16 = k.id := List.take_of_length_le (by omega)
  have hct := ctLlive_ok (ctFewK_ok hi (ctRLMay_ok (ctRMayLeaf_ok (ctLRoot_ok (ctLPath_ok (ctLPub_ok (ctRRootL_ok (ctRPubL_ok (ctRPathL_ok (ctEqual_ok (CtOK_nil (P := Tryz.prog) (Gl := Gs))))))))))))
  refine Fun_cc [ctLlive, ct1 41 [.agg (lkC k)] (.b (fewB k)), ctRLMay, ctRMayLeaf, ctLRoot, ctLPath, ctLPub 52, ctRRootL, ctRPubL, ctRPathL, ctEqual] mo Tryz.func8 (by decide) cc8 rs8 Tryz.ntmps8 (by simp) (AW_run hct 1000 ?_)
  cases hF : fewB k with
  | false => 
    simp (maxSteps := 10000000) (disch := omega) only [go_sem, c8, ctLlive, ct1, lkC, hi, hit, hF, reduceIte, seval, -BitVec.isValue, -BitVec.reduceOfNat, -List.reduceReplicate]
  | true =>
    have hfH := fun h => few_H' hF h
    have hfI : mdE k.l k.o k.sd = 0 → k.l.h ≤ 4 := fun h => by have := hfH h; omega
    have hfJ := eq_true hfI
    have hfL := eq_true hfH
    by_cases h1 : mdE k.l k.o k.sd = 0
    · have hk : LKok k := mdE_ok h1 hi
      have hk' : LKok ⟨k.l, k.o, k.id, k.sd⟩ := hk
      have hH := hfH h1
      have hHI := hfI h1
      have hR : rootR k.l k.o k.id k.sd = .tup [Enc.ret (lroot k), .i 0] := by rw [rootR, if_pos h1]
      have hP : lpubR k.l k.o k.id k.sd = .tup [Enc.ret (lpubS' k), .i 0] := by rw [lpubR, if_pos h1]
      by_cases h0 : atE k.l k.o k.sd q = 0
      · obtain ⟨_, _, hq⟩ := atE_ok h0 hi
        have hpa : pathR k.l k.o k.id k.sd q = .tup [Enc.ret (lpath k q.toNat k.l.h.toNat), .i 0] := by rw [pathR, if_pos h0]
        simp (maxSteps := 10000000) (disch := omega) only [go_sem, c8, ctLlive, ct1, ctRLMay, ctRMayLeaf, ctLRoot, ctLPath, ctLPub, ctRRootL, ctRPubL, ctRPathL, ctEqual, lkC, hi, hit, hF, hsd, h0, h1, hk', hH, hHI, hR, hP, hpa, hq, reduceIte, seval, -BitVec.isValue, -BitVec.reduceOfNat, -List.reduceReplicate]
        try simp
      · obtain ⟨e, he⟩ : ∃ e, e = atE k.l k.o k.sd q := ⟨_, rfl⟩
        have hpa : pathR k.l k.o k.id k.sd q = nilE e := by rw [pathR, if_neg h0, he]
        rw [← he] at h0
        simp (maxSteps := 10000000) (disch := omega) only [go_sem, c8, ctLlive, ct1, ctRLMay, ctRMayLeaf, ctLRoot, ctLPath, ctLPub, ctRRootL, ctRPubL, ctRPathL, ctEqual, lkC, hi, hit, hF, hsd, ← he, eq_false h0, h1, hk', hH, hHI, hR, hP, hpa, nilE, reduceIte, seval, -BitVec.isValue, -BitVec.reduceOfNat, -List.reduceReplicate]
        try simp
    · have h0 : atE k.l k.o k.sd q = mdE k.l k.o k.sd := by rw [atE, if_neg h1]
      obtain ⟨e, he⟩ : ∃ e, e = mdE k.l k.o k.sd := ⟨_, rfl⟩
      have hR : rootR k.l k.o k.id k.sd = nilE e := by rw [rootR, if_neg h1, he]
      have hP : lpubR k.l k.o k.id k.sd = nilE e := by rw [lpubR, if_neg h1, he]
      have hpa : pathR k.l k.o k.id k.sd q = nilE e := by rw [pathR, h0, if_neg h1, he]
      rw [← he] at h0 h1 hfJ hfL
      simp (maxSteps := 10000000) (disch := omega) only [go_sem, c8, ctLlive, ct1, ctRLMay, ctRMayLeaf, ctLRoot, ctLPath, ctLPub, ctRRootL, ctRPubL, ctRPathL, ctEqual, lkC, hi, hit, hF, hsd, ← he, h0, eq_false h1, hfJ, hfL, hR, hP, hpa, nilE, reduceIte, seval, -BitVec.isValue, -BitVec.reduceOfNat, -List.reduceReplicate]
      try simp
end Go.Lv
