/- A part of the proof. -/
import Derived.Test.YtjehnljbhmjgoaaGreatDoorJt
import Derived.Test.YtjehnljbhmjgoaaGreatDoorGK
set_option linter.all false
namespace Go.Lv
open Go Go.Proofs
set_option linter.unusedSimpArgs false
set_option maxRecDepth 100000
def fewB (k : LK) : Bool := if 100 < k.sd.length ∨ ¬ fitP k.l k.o then decide (k.sd.length ≤ 100) else decide (k.l.h ≤ 4) && decide (k.o.p * 2 ^ k.o.w.toNat * 2 ^ k.l.h.toNat ≤ 7000)
set_option maxHeartbeats 1000000 in
theorem few_fun (k : LK) (hi : k.id.length = 16) : Fun Tryz.prog Gs 41 [.agg (lkC k)] (.b (fewB k)) := by
  have hit : k.id.take 16 = k.id := List.take_of_length_le (by omega)
  have hct := ctRFit_ok (CtOK_nil (P := Tryz.prog) (Gl := Gs))
  refine Fun_cc _ mo Tryz.func41 (by decide) cc41 rs41 Tryz.ntmps41 (by simp) (AW_run hct 1000 ?_)
  by_cases h1 : 100 < k.sd.length
  · have h1' : (100 : Int) < k.sd.length := by omega
    have hF : fewB k = false := by rw [fewB, if_pos (.inl h1)]; exact decide_eq_false (by omega)
    have h2 : ¬ (k.sd.length : Int) ≤ 100 := by omega
    simp (maxSteps := 10000000) (disch := omega) only [go_sem, c41, ctFit, lkC, hi, hit, eq_true h1', eq_false h2, hF, reduceIte, seval, -BitVec.isValue, -BitVec.reduceOfNat, -List.reduceReplicate]
    try simp
  · have h1' : ¬ (100 : Int) < k.sd.length := by omega
    by_cases hf : fitP k.l k.o
    · have ho := otsT_ok hf.2.1
      have hon := ho.n
      have hop := ho.p
      have how := ho.w
      have hsm := lmsT_sm hf.1
      obtain ⟨g1, g2, g3, g4⟩ := hsm
      by_cases hH : k.l.h ≤ 4
      · have hF : fewB k = decide (k.o.p * 2 ^ k.o.w.toNat * 2 ^ k.l.h.toNat ≤ 7000) := by
          rw [fewB, if_neg (by intro e; rcases e with e | e; exact h1 e; exact e hf)]
          simp [hH]
        have hw8 : 0 ≤ k.o.w ∧ k.o.w < 64 ∧ k.o.w.toNat ≤ 8 := by rcases how with e | e | e | e <;> rw [e] <;> decide
        have e1 : (0 : Int) ≤ 2 ^ k.o.w.toNat ∧ (2 : Int) ^ k.o.w.toNat ≤ 256 := by
          have h0 : (2 : Nat) ^ k.o.w.toNat ≤ 2 ^ 8 := Nat.pow_le_pow_right (n := 2) (by omega) hw8.2.2
          have : ((2 ^ k.o.w.toNat : Nat) : Int) = (2 : Int) ^ k.o.w.toNat := by simp
          rw [← this]
          exact ⟨Int.natCast_nonneg _, Int.ofNat_le.2 h0⟩
        have e2 : (0 : Int) ≤ 2 ^ k.l.h.toNat ∧ (2 : Int) ^ k.l.h.toNat ≤ 16 := by
          have h0 : (2 : Nat) ^ k.l.h.toNat ≤ 2 ^ 4 := Nat.pow_le_pow_right (n := 2) (by omega) (by omega)
          have : ((2 ^ k.l.h.toNat : Nat) : Int) = (2 : Int) ^ k.l.h.toNat := by simp
          rw [← this]
          exact ⟨Int.natCast_nonneg _, Int.ofNat_le.2 h0⟩
        obtain ⟨A, hA⟩ : ∃ A, A = (2 : Int) ^ k.o.w.toNat := ⟨_, rfl⟩
        obtain ⟨B, hB⟩ : ∃ B, B = (2 : Int) ^ k.l.h.toNat := ⟨_, rfl⟩
        have m1 := mul_sm (A := 265) (B := 256) (a := k.o.p) (b := A) (by omega) (by omega) (by omega) (by omega)
        have m2 := mul_sm (A := 67840) (B := 16) (a := k.o.p * A) (b := B) (by omega) (by omega) (by omega) (by omega)
        have b1 : -9223372036854775808 ≤ k.o.p * A := by omega
        have b2 : k.o.p * A ≤ 9223372036854775807 := by omega
        have b3 : -9223372036854775808 ≤ k.o.p * A * B := by omega
        have b4 : k.o.p * A * B ≤ 9223372036854775807 := by omega
        rw [hF]
        have h64 : k.l.h < 64 := by omega
        by_cases h7 : k.o.p * 2 ^ k.o.w.toNat * 2 ^ k.l.h.toNat ≤ 7000
        · rw [decide_eq_true h7]
          rw [← hA, ← hB] at h7
          simp (maxSteps := 10000000) (disch := omega) only [go_sem, c41, ctFit, lkC, hi, hit, eq_false h1', hf, eq_true hH, g1, h64, hw8.1, hw8.2.1, ← hA, ← hB, b1, b2, b3, b4, eq_true h7, reduceIte, seval, -BitVec.isValue, -BitVec.reduceOfNat, -List.reduceReplicate]
          try simp
        · rw [decide_eq_false h7]
          rw [← hA, ← hB] at h7
          simp (maxSteps := 10000000) (disch := omega) only [go_sem, c41, ctFit, lkC, hi, hit, eq_false h1', hf, eq_true hH, g1, h64, hw8.1, hw8.2.1, ← hA, ← hB, b1, b2, b3, b4, eq_false h7, reduceIte, seval, -BitVec.isValue, -BitVec.reduceOfNat, -List.reduceReplicate]
          try simp
      · have hF : fewB k = false := by
          rw [fewB, if_neg (by intro e; rcases e with e | e; exact h1 e; exact e hf)]
          simp [hH]
        simp (maxSteps := 10000000) (disch := omega) only [go_sem, c41, ctFit, lkC, hi, hit, eq_false h1', hf, eq_false hH, hF, reduceIte, seval, -BitVec.isValue, -BitVec.reduceOfNat, -List.reduceReplicate]
        try simp
    · have hF : fewB k = true := by rw [fewB, if_pos (.inr hf)]; exact decide_eq_true (by omega)
      have h2 : (k.sd.length : Int) ≤ 100 := by omega
      simp (maxSteps := 10000000) (disch := omega) only [go_sem, c41, ctFit, lkC, hi, hit, eq_false h1', eq_false hf, eq_true h2, hF, reduceIte, seval, -BitVec.isValue, -BitVec.reduceOfNat, -List.reduceReplicate]
      try simp
theorem ctFewK_ok {k : LK} (hi : k.id.length = 16) {Ct : List (Nat × (List AV → R))} (h : CtOK Tryz.prog Gs Ct) : CtOK Tryz.prog Gs (ct1 41 [.agg (lkC k)] (.b (fewB k)) :: Ct) := CtOK_cons (fun a h => by
  have h : a = [.agg (lkC k)] := h
  subst h; exact few_fun k hi) h
theorem few_H {k : LK} (h : fewB k = true) (hf : fitP k.l k.o) : k.l.h.toNat ≤ 4 := by
  rw [fewB] at h
  split at h
  · rename_i e
    rcases e with e | e
    · have := of_decide_eq_true h; omega
    · exact absurd hf e
  · have h : (decide (k.l.h ≤ 4) && decide (k.o.p * 2 ^ k.o.w.toNat * 2 ^ k.l.h.toNat ≤ 7000)) = true := h
    rw [Bool.and_eq_true, decide_eq_true_eq] at h
    omega
theorem mdE_fit {l : Lms} {o : Ots} {sd : By} (h : mdE l o sd = 0) : fitP l o := by
  rw [mdE] at h
  split at h
  · assumption
  · cases h
theorem few_H' {k : LK} (h : fewB k = true) (hm : mdE k.l k.o k.sd = 0) : k.l.h.toNat ≤ 4 := few_H h (mdE_fit hm)
end Go.Lv
