/- A part of the proof (GO). -/
import Derived.Test.YtjehnljbhmjgoaaGreatDoorGN
import Derived.Test.YtjehnljbhmjgoaaGreatDoorGK
set_option linter.all false
namespace Go.Lv
open Go Go.Proofs
set_option linter.unusedSimpArgs false
set_option maxRecDepth 100000
theorem rLMay_fun (l : Lms) (o : Ots) (seed : By) : Fun Tryz.prog Gs 49 [Enc.enc l, Enc.enc o, Enc.enc seed] (.i (mdE l o seed)) := by
  have hct := ctRFit_ok (CtOK_nil (P := Tryz.prog) (Gl := Gs))
  refine Fun_cc _ mo Tryz.func49 (by decide) cc49 rs49 Tryz.ntmps49 (by simp) (AW_run hct 1000 ?_)
  by_cases h1 : fitP l o
  · by_cases h2 : (seed.length : Int) = l.n
    · have hE : mdE l o seed = 0 := by rw [mdE, if_pos h1, if_pos h2]
      simp (maxSteps := 10000000) (disch := omega) only [go_sem, c49, ctFit, h1, h2, hE, reduceIte, seval, -BitVec.isValue, -BitVec.reduceOfNat, -List.reduceReplicate]
      try simp
    · have hE : mdE l o seed = 1 := by rw [mdE, if_pos h1, if_neg h2]
      simp (maxSteps := 10000000) (disch := omega) only [go_sem, c49, ctFit, h1, eq_false h2, hE, reduceIte, seval, -BitVec.isValue, -BitVec.reduceOfNat, -List.reduceReplicate]
      try simp
  · have hE : mdE l o seed = 60 := by rw [mdE, if_neg h1]
    simp (maxSteps := 10000000) (disch := omega) only [go_sem, c49, ctFit, eq_false h1, hE, reduceIte, seval, -BitVec.isValue, -BitVec.reduceOfNat, -List.reduceReplicate]
    try simp
def ctRLMay : Nat × (List AV → R) := (49, A3 fun (l : Lms) (o : Ots) (seed : By) => (True, .i (mdE l o seed)))
theorem ctRLMay_ok {Ct : List (Nat × (List AV → R))} (h : CtOK Tryz.prog Gs Ct) : CtOK Tryz.prog Gs (ctRLMay :: Ct) := CtOK_cons (Row3 fun l o s _ => rLMay_fun l o s) h
theorem rMayLeaf_fun (l : Lms) (o : Ots) (seed : By) (q : BitVec 32) : Fun Tryz.prog Gs 43 [Enc.enc l, Enc.enc o, Enc.enc seed, Enc.enc q] (.i (atE l o seed q)) := by
  have hct := ctRLMay_ok (ctLeaves_ok (CtOK_nil (P := Tryz.prog) (Gl := Gs)))
  refine Fun_cc _ mo Tryz.func43 (by decide) cc43 rs43 Tryz.ntmps43 (by simp) (AW_run hct 1000 ?_)
  by_cases h0 : mdE l o seed = 0
  · have hf : fitP l o := by
      rw [mdE] at h0
      split at h0
      · assumption
      · cases h0
    have hsm := lmsT_sm hf.1
    by_cases h1 : pw l.h.toNat ≤ q.setWidth 64
    · have hE : atE l o seed q = 80 := by rw [atE, if_pos h0, if_pos h1]
      simp (maxSteps := 10000000) (disch := omega) only [go_sem, c43, ctRLMay, ctLeaves, h0, hsm, eq_true h1, hE, reduceIte, seval, -BitVec.isValue, -BitVec.reduceOfNat, -List.reduceReplicate]
    · have hE : atE l o seed q = 0 := by rw [atE, if_pos h0, if_neg h1]
      simp (maxSteps := 10000000) (disch := omega) only [go_sem, c43, ctRLMay, ctLeaves, h0, hsm, eq_false h1, hE, reduceIte, seval, -BitVec.isValue, -BitVec.reduceOfNat, -List.reduceReplicate]
  · have hE : atE l o seed q = mdE l o seed := by rw [atE, if_neg h0]
    rw [hE]
    obtain ⟨e, he⟩ : ∃ e, e = mdE l o seed := ⟨_, rfl⟩
    rw [← he] at h0 ⊢
    simp (maxSteps := 10000000) (disch := omega) only [go_sem, c43, ctRLMay, ctLeaves, ← he, eq_false h0, reduceIte, seval, -BitVec.isValue, -BitVec.reduceOfNat, -List.reduceReplicate]
def ctRMayLeaf : Nat × (List AV → R) := (43, A4 fun (l : Lms) (o : Ots) (seed : By) (q : BitVec 32) => (True, .i (atE l o seed q)))
theorem ctRMayLeaf_ok {Ct : List (Nat × (List AV → R))} (h : CtOK Tryz.prog Gs Ct) : CtOK Tryz.prog Gs (ctRMayLeaf :: Ct) := CtOK_cons (Row4 fun l o s q _ => rMayLeaf_fun l o s q) h
set_option maxHeartbeats 2000000 in
theorem rLLeaf_fun (l : Lms) (o : Ots) (id seed : By) (q : BitVec 32) (hk : LKok ⟨l, o, id, seed⟩) (hq : q.toNat < 2 ^ l.h.toNat) : Fun Tryz.prog Gs 73 [Enc.enc l, Enc.enc o, Enc.enc (⟨id⟩ : Ar (BitVec 8)), Enc.enc seed, Enc.enc q] (Enc.ret (lnode ⟨l, o, id, seed⟩ 0 q.toNat)) := by
  have hid : id.length = 16 := hk.i
  have hit : id.take 16 = id := List.take_of_length_le (by omega)
  have hsm : lmsSm l := hk.sm
  obtain ⟨g1, g2, g3, g4⟩ := hk.sm
  have ho : OtsOK o := hk.o
  have hn : l.n = o.n := hk.n
  have hs : (seed.length : Int) = o.n := by have := hk.s; simp only at this; omega
  have hlw := lW_0 (H := l.h.toNat) (by simp only at g2; omega) hq
  have hpl : (lpubO o id q seed).length = o.n.toNat := by have h1 : ((lpubO o id q seed).length : Int) = o.n := hO_len ho _; omega
  have hon := ho.n
  have hf : [lpubO o id q seed].flatten = lpubO o id q seed := by simp
  have hii : BitVec.ofNat 32 q.toNat = q := by simp
  have hV : vS l id (lW l.h.toNat 0 q.toNat) 130 (lpubO o id q seed) = lnode ⟨l, o, id, seed⟩ 0 q.toNat := by
    rw [lnode]; simp only [hii]; exact vS_lf hk.f id _ _
  have hct := mark_ok 23 (ctLeaves_ok (ctRPublic_ok (ctRValue_ok (CtOK_nil (P := Tryz.prog) (Gl := Gs)))))
  refine Fun_cc [mark 23, ctLeaves, ctRPublic, ctRValue] mo Tryz.func73 (by decide) cc73 rs73 Tryz.ntmps73 (by simp) (AW_run hct 1000 ?_)
  simp (maxSteps := 10000000) (disch := omega) only [go_sem, c73, mark, ctLeaves, ctRPublic, ctRValue, hid, hit, hsm, ho, hs, hlw, hpl, hf, hV, deL_cons, deL_nil, reduceIte, seval, -BitVec.isValue, -BitVec.reduceOfNat, -List.reduceReplicate]
  try simp
def ctRLLeaf : Nat × (List AV → R) := (73, A5 fun (l : Lms) (o : Ots) (id : Ar (BitVec 8)) (seed : By) (q : BitVec 32) => (LKok ⟨l, o, id.l, seed⟩ ∧ q.toNat < 2 ^ l.h.toNat, Enc.ret (lnode ⟨l, o, id.l, seed⟩ 0 q.toNat)))
theorem ctRLLeaf_ok {Ct : List (Nat × (List AV → R))} (h : CtOK Tryz.prog Gs Ct) : CtOK Tryz.prog Gs (ctRLLeaf :: Ct) := CtOK_cons (Row5 fun l o id s q h => rLLeaf_fun l o id.l s q h.1 h.2) h
end Go.Lv
namespace Go.Lv
open Go Go.Proofs
set_option linter.unusedSimpArgs false
set_option maxRecDepth 100000
end Go.Lv
namespace Go.Lv
open Go Go.Proofs
set_option linter.unusedSimpArgs false
set_option maxRecDepth 100000
def fewB (k : LK) : Bool := if 100 < k.sd.length ∨ ¬ fitP k.l k.o then decide (k.sd.length ≤ 100) else decide (k.l.h ≤ 4) && decide (k.o.p * 2 ^ k.o.w.toNat * 2 ^ k.l.h.toNat ≤ 7000)
set_option maxHeartbeats 1000000 in
theorem few_fun (k : LK) (hi : k.id.length = 16) : Fun Tryz.prog Gs 41 [.agg (lkC k)] (.b (fewB k)) := by
  have hit : k.id.take 16 = k.id := List.take_of_length_le (by omega)
  have hct := ctRFit_ok (CtOK_nil (P := Tryz.prog) (Gl := Gs))
  refine Fun_cc _ mo Tryz.func41 (by decide) cc41 rs41 Tryz.ntmps41 (by simp) (AW_run hct 1000 ?_)
  by_cases h1 : 100 < k.sd.length
  · have h1' : (100 : Int) < k.sd.length := by omega
    have hF : fewB k = false := by rw [fewB, if_pos (.inl h1)]; exact decide_eq_false (by omega)
    have h2 : ¬ (k.sd.length : Int) ≤ 100 := by omega
    simp (maxSteps := 10000000) (disch := omega) only [go_sem, c41, ctFit, lkC, hi, hit, eq_true h1', eq_false h2, hF, reduceIte, seval, -BitVec.isValue, -BitVec.reduceOfNat, -List.reduceReplicate]
    try simp
  · have h1' : ¬ (100 : Int) < k.sd.length := by omega
    by_cases hf : fitP k.l k.o
    · have ho := otsT_ok hf.2.1
      have hon := ho.n
      have hop := ho.p
      have how := ho.w
      have hsm := lmsT_sm hf.1
      obtain ⟨g1, g2, g3, g4⟩ := hsm
      by_cases hH : k.l.h ≤ 4
      · have hF : fewB k = decide (k.o.p * 2 ^ k.o.w.toNat * 2 ^ k.l.h.toNat ≤ 7000) := by
          rw [fewB, if_neg (by intro e; rcases e with e | e; exact h1 e; exact e hf)]
          simp [hH]
        have hw8 : 0 ≤ k.o.w ∧ k.o.w < 64 ∧ k.o.w.toNat ≤ 8 := by rcases how with e | e | e | e <;> rw [e] <;> decide
        have e1 : (0 : Int) ≤ 2 ^ k.o.w.toNat ∧ (2 : Int) ^ k.o.w.toNat ≤ 256 := by
          have h0 : (2 : Nat) ^ k.o.w.toNat ≤ 2 ^ 8 := Nat.pow_le_pow_right (n := 2) (by omega) hw8.2.2
          have : ((2 ^ k.o.w.toNat : Nat) : Int) = (2 : Int) ^ k.o.w.toNat := by simp
          rw [← this]
          exact ⟨Int.natCast_nonneg _, Int.ofNat_le.2 h0⟩
        have e2 : (0 : Int) ≤ 2 ^ k.l.h.toNat ∧ (2 : Int) ^ k.l.h.toNat ≤ 16 := by
          have h0 : (2 : Nat) ^ k.l.h.toNat ≤ 2 ^ 4 := Nat.pow_le_pow_right (n := 2) (by omega) (by omega)
          have : ((2 ^ k.l.h.toNat : Nat) : Int) = (2 : Int) ^ k.l.h.toNat := by simp
          rw [← this]
          exact ⟨Int.natCast_nonneg _, Int.ofNat_le.2 h0⟩
        obtain ⟨A, hA⟩ : ∃ A, A = (2 : Int) ^ k.o.w.toNat := ⟨_, rfl⟩
        obtain ⟨B, hB⟩ : ∃ B, B = (2 : Int) ^ k.l.h.toNat := ⟨_, rfl⟩
        have m1 := mul_sm (A := 265) (B := 256) (a := k.o.p) (b := A) (by omega) (by omega) (by omega) (by omega)
        have m2 := mul_sm (A := 67840) (B := 16) (a := k.o.p * A) (b := B) (by omega) (by omega) (by omega) (by omega)
        have b1 : -9223372036854775808 ≤ k.o.p * A := by omega
        have b2 : k.o.p * A ≤ 9223372036854775807 := by omega
        have b3 : -9223372036854775808 ≤ k.o.p * A * B := by omega
        have b4 : k.o.p * A * B ≤ 9223372036854775807 := by omega
        rw [hF]
        have h64 : k.l.h < 64 := by omega
        by_cases h7 : k.o.p * 2 ^ k.o.w.toNat * 2 ^ k.l.h.toNat ≤ 7000
        · rw [decide_eq_true h7]
          rw [← hA, ← hB] at h7
          simp (maxSteps := 10000000) (disch := omega) only [go_sem, c41, ctFit, lkC, hi, hit, eq_false h1', hf, eq_true hH, g1, h64, hw8.1, hw8.2.1, ← hA, ← hB, b1, b2, b3, b4, eq_true h7, reduceIte, seval, -BitVec.isValue, -BitVec.reduceOfNat, -List.reduceReplicate]
          try simp
        · rw [decide_eq_false h7]
          rw [← hA, ← hB] at h7
          simp (maxSteps := 10000000) (disch := omega) only [go_sem, c41, ctFit, lkC, hi, hit, eq_false h1', hf, eq_true hH, g1, h64, hw8.1, hw8.2.1, ← hA, ← hB, b1, b2, b3, b4, eq_false h7, reduceIte, seval, -BitVec.isValue, -BitVec.reduceOfNat, -List.reduceReplicate]
          try simp
      · have hF : fewB k = false := by
          rw [fewB, if_neg (by intro e; rcases e with e | e; exact h1 e; exact e hf)]
          simp [hH]
        simp (maxSteps := 10000000) (disch := omega) only [go_sem, c41, ctFit, lkC, hi, hit, eq_false h1', hf, eq_false hH, hF, reduceIte, seval, -BitVec.isValue, -BitVec.reduceOfNat, -List.reduceReplicate]
        try simp
    · have hF : fewB k = true := by rw [fewB, if_pos (.inr hf)]; exact decide_eq_true (by omega)
      have h2 : (k.sd.length : Int) ≤ 100 := by omega
      simp (maxSteps := 10000000) (disch := omega) only [go_sem, c41, ctFit, lkC, hi, hit, eq_false h1', eq_false hf, eq_true h2, hF, reduceIte, seval, -BitVec.isValue, -BitVec.reduceOfNat, -List.reduceReplicate]
      try simp
theorem ctFewK_ok {k : LK} (hi : k.id.length = 16) {Ct : List (Nat × (List AV → R))} (h : CtOK Tryz.prog Gs Ct) : CtOK Tryz.prog Gs (ct1 41 [.agg (lkC k)] (.b (fewB k)) :: Ct) := CtOK_cons (fun a h => by
  have h : a = [.agg (lkC k)] := h
  subst h; exact few_fun k hi) h
theorem few_H {k : LK} (h : fewB k = true) (hf : fitP k.l k.o) : k.l.h.toNat ≤ 4 := by
  rw [fewB] at h
  split at h
  · rename_i e
    rcases e with e | e
    · have := of_decide_eq_true h; omega
    · exact absurd hf e
  · have h : (decide (k.l.h ≤ 4) && decide (k.o.p * 2 ^ k.o.w.toNat * 2 ^ k.l.h.toNat ≤ 7000)) = true := h
    rw [Bool.and_eq_true, decide_eq_true_eq] at h
    omega
theorem mdE_fit {l : Lms} {o : Ots} {sd : By} (h : mdE l o sd = 0) : fitP l o := by
  rw [mdE] at h
  split at h
  · assumption
  · cases h
theorem few_H' {k : LK} (h : fewB k = true) (hm : mdE k.l k.o k.sd = 0) : k.l.h.toNat ≤ 4 := few_H h (mdE_fit hm)
end Go.Lv
