/- A part of the proof. -/
import Derived.Test.YtlieeeembbjenaaTh
set_option linter.all false
namespace Go.Lv
open Go Go.Proofs
set_option linter.unusedSimpArgs false
set_option maxRecDepth 100000

theorem rbytes_fun (k : Int) (h : 0 ≤ k) : Fun Try.prog [] 76 [Enc.enc k] (.i (if k % 2 = 1 then 24 else 32)) := by
  refine Fun_cc [] mo Try.func76 (by decide) cc76 rs76 Try.ntmps76 (by simp) ?_
  refine AW_run CtOK_nil 1000 ?_
  by_cases h3 : k % 2 = 1
  · simp (disch := omega) only [go_sem, c76, Int.tmod_eq_emod_of_nonneg, reduceIte, Nat.reduceAdd, Nat.reduceSub, Nat.reduceMul, Nat.reduceDiv, Nat.reduceMod, Nat.reducePow, Nat.reduceLT, Nat.reduceLeDiff, Nat.reduceBEq, Nat.reduceEqDiff, Nat.reduceAnd, Int.reduceLT, Int.reduceLE, Int.reduceEq, Int.reduceAdd, Int.reduceSub, Int.reduceMul, Int.reduceDiv, Int.reduceMod, Int.reducePow, Int.reduceToNat, Int.reduceNatCast, Int.reduceNeg, BitVec.reduceAdd, BitVec.reduceSub, BitVec.reduceMul, BitVec.reduceUDiv, BitVec.reduceUMod, BitVec.reduceDiv, BitVec.reduceMod, BitVec.reduceLT, BitVec.reduceLE, BitVec.reduceEq, BitVec.reduceToNat, BitVec.reduceToInt, BitVec.reduceOfInt, BitVec.reduceSetWidth, BitVec.reduceAnd, BitVec.reduceOr, BitVec.reduceXOr, BitVec.reduceNot, BitVec.reduceHShiftLeft, BitVec.reduceHShiftRight]
  · simp (disch := omega) only [go_sem, c76, Int.tmod_eq_emod_of_nonneg, reduceIte, Nat.reduceAdd, Nat.reduceSub, Nat.reduceMul, Nat.reduceDiv, Nat.reduceMod, Nat.reducePow, Nat.reduceLT, Nat.reduceLeDiff, Nat.reduceBEq, Nat.reduceEqDiff, Nat.reduceAnd, Int.reduceLT, Int.reduceLE, Int.reduceEq, Int.reduceAdd, Int.reduceSub, Int.reduceMul, Int.reduceDiv, Int.reduceMod, Int.reducePow, Int.reduceToNat, Int.reduceNatCast, Int.reduceNeg, BitVec.reduceAdd, BitVec.reduceSub, BitVec.reduceMul, BitVec.reduceUDiv, BitVec.reduceUMod, BitVec.reduceDiv, BitVec.reduceMod, BitVec.reduceLT, BitVec.reduceLE, BitVec.reduceEq, BitVec.reduceToNat, BitVec.reduceToInt, BitVec.reduceOfInt, BitVec.reduceSetWidth, BitVec.reduceAnd, BitVec.reduceOr, BitVec.reduceXOr, BitVec.reduceNot, BitVec.reduceHShiftLeft, BitVec.reduceHShiftRight]; simp [h3]

def σpow (n : Int) (k : Nat) : St := ⟨[(3, .i (2 ^ k)), (4, .i n), (5, .i k)], [], 0⟩
theorem rpower_fun (n : Int) (h : 0 ≤ n ∧ n ≤ 61) : Fun Try.prog [] 77 [Enc.enc n] (.i (2 ^ n.toNat)) := by
  refine Fun_cc [] mo Try.func77 (by decide) cc77 rs77 Try.ntmps77 (by simp) ?_
  refine AW_run CtOK_nil 1000 ?_
  simp (disch := omega) only [go_sem, c77, reduceIte, Nat.reduceAdd, Nat.reduceSub, Nat.reduceMul, Nat.reduceDiv, Nat.reduceMod, Nat.reducePow, Nat.reduceLT, Nat.reduceLeDiff, Nat.reduceBEq, Nat.reduceEqDiff, Nat.reduceAnd, Int.reduceLT, Int.reduceLE, Int.reduceEq, Int.reduceAdd, Int.reduceSub, Int.reduceMul, Int.reduceDiv, Int.reduceMod, Int.reducePow, Int.reduceToNat, Int.reduceNatCast, Int.reduceNeg, BitVec.reduceAdd, BitVec.reduceSub, BitVec.reduceMul, BitVec.reduceUDiv, BitVec.reduceUMod, BitVec.reduceDiv, BitVec.reduceMod, BitVec.reduceLT, BitVec.reduceLE, BitVec.reduceEq, BitVec.reduceToNat, BitVec.reduceToInt, BitVec.reduceOfInt, BitVec.reduceSetWidth, BitVec.reduceAnd, BitVec.reduceOr, BitVec.reduceXOr, BitVec.reduceNot, BitVec.reduceHShiftLeft, BitVec.reduceHShiftRight]
  refine AW_loop (σpow n) (fun k => k ≤ n) (fun k => n.toNat - k) 0 (by omega) (Wk_p [] ?_) fun k hk => ?_
  · simp only [go_sem, σpow, reduceIte, Nat.reduceAdd, Nat.reduceSub, Nat.reduceMul, Nat.reduceDiv, Nat.reduceMod, Nat.reducePow, Nat.reduceLT, Nat.reduceLeDiff, Nat.reduceBEq, Nat.reduceEqDiff, Nat.reduceAnd, Int.reduceLT, Int.reduceLE, Int.reduceEq, Int.reduceAdd, Int.reduceSub, Int.reduceMul, Int.reduceDiv, Int.reduceMod, Int.reducePow, Int.reduceToNat, Int.reduceNatCast, Int.reduceNeg, BitVec.reduceAdd, BitVec.reduceSub, BitVec.reduceMul, BitVec.reduceUDiv, BitVec.reduceUMod, BitVec.reduceDiv, BitVec.reduceMod, BitVec.reduceLT, BitVec.reduceLE, BitVec.reduceEq, BitVec.reduceToNat, BitVec.reduceToInt, BitVec.reduceOfInt, BitVec.reduceSetWidth, BitVec.reduceAnd, BitVec.reduceOr, BitVec.reduceXOr, BitVec.reduceNot, BitVec.reduceHShiftLeft, BitVec.reduceHShiftRight]
    simp
  · refine AW_run CtOK_nil 1000 ?_
    have hp := pow_le61 (w := (k : Int)) (by omega)
    simp only [Int.toNat_natCast] at hp
    simp (disch := omega) only [go_sem, σpow, reduceIte, Nat.reduceAdd, Nat.reduceSub, Nat.reduceMul, Nat.reduceDiv, Nat.reduceMod, Nat.reducePow, Nat.reduceLT, Nat.reduceLeDiff, Nat.reduceBEq, Nat.reduceEqDiff, Nat.reduceAnd, Int.reduceLT, Int.reduceLE, Int.reduceEq, Int.reduceAdd, Int.reduceSub, Int.reduceMul, Int.reduceDiv, Int.reduceMod, Int.reducePow, Int.reduceToNat, Int.reduceNatCast, Int.reduceNeg, BitVec.reduceAdd, BitVec.reduceSub, BitVec.reduceMul, BitVec.reduceUDiv, BitVec.reduceUMod, BitVec.reduceDiv, BitVec.reduceMod, BitVec.reduceLT, BitVec.reduceLE, BitVec.reduceEq, BitVec.reduceToNat, BitVec.reduceToInt, BitVec.reduceOfInt, BitVec.reduceSetWidth, BitVec.reduceAnd, BitVec.reduceOr, BitVec.reduceXOr, BitVec.reduceNot, BitVec.reduceHShiftLeft, BitVec.reduceHShiftRight]
    refine run_br (fun hb => ?_) (fun hb => ?_)
    · have hlt : (k : Int) < n := by simpa using hb
      simp (disch := omega) only [go_sem, reduceIte, Nat.reduceAdd, Nat.reduceSub, Nat.reduceMul, Nat.reduceDiv, Nat.reduceMod, Nat.reducePow, Nat.reduceLT, Nat.reduceLeDiff, Nat.reduceBEq, Nat.reduceEqDiff, Nat.reduceAnd, Int.reduceLT, Int.reduceLE, Int.reduceEq, Int.reduceAdd, Int.reduceSub, Int.reduceMul, Int.reduceDiv, Int.reduceMod, Int.reducePow, Int.reduceToNat, Int.reduceNatCast, Int.reduceNeg, BitVec.reduceAdd, BitVec.reduceSub, BitVec.reduceMul, BitVec.reduceUDiv, BitVec.reduceUMod, BitVec.reduceDiv, BitVec.reduceMod, BitVec.reduceLT, BitVec.reduceLE, BitVec.reduceEq, BitVec.reduceToNat, BitVec.reduceToInt, BitVec.reduceOfInt, BitVec.reduceSetWidth, BitVec.reduceAnd, BitVec.reduceOr, BitVec.reduceXOr, BitVec.reduceNot, BitVec.reduceHShiftLeft, BitVec.reduceHShiftRight]
      refine ⟨k + 1, by omega, Wk_p [] ?_, by omega⟩
      simp only [go_sem, reduceIte, Nat.reduceAdd, Nat.reduceSub, Nat.reduceMul, Nat.reduceDiv, Nat.reduceMod, Nat.reducePow, Nat.reduceLT, Nat.reduceLeDiff, Nat.reduceBEq, Nat.reduceEqDiff, Nat.reduceAnd, Int.reduceLT, Int.reduceLE, Int.reduceEq, Int.reduceAdd, Int.reduceSub, Int.reduceMul, Int.reduceDiv, Int.reduceMod, Int.reducePow, Int.reduceToNat, Int.reduceNatCast, Int.reduceNeg, BitVec.reduceAdd, BitVec.reduceSub, BitVec.reduceMul, BitVec.reduceUDiv, BitVec.reduceUMod, BitVec.reduceDiv, BitVec.reduceMod, BitVec.reduceLT, BitVec.reduceLE, BitVec.reduceEq, BitVec.reduceToNat, BitVec.reduceToInt, BitVec.reduceOfInt, BitVec.reduceSetWidth, BitVec.reduceAnd, BitVec.reduceOr, BitVec.reduceXOr, BitVec.reduceNot, BitVec.reduceHShiftLeft, BitVec.reduceHShiftRight]
      simp [Int.pow_succ]
    · have hge : n = k := by have : ¬ (k : Int) < n := by simpa using hb
                             omega
      subst hge
      simp (disch := omega) only [go_sem, reduceIte, Nat.reduceAdd, Nat.reduceSub, Nat.reduceMul, Nat.reduceDiv, Nat.reduceMod, Nat.reducePow, Nat.reduceLT, Nat.reduceLeDiff, Nat.reduceBEq, Nat.reduceEqDiff, Nat.reduceAnd, Int.reduceLT, Int.reduceLE, Int.reduceEq, Int.reduceAdd, Int.reduceSub, Int.reduceMul, Int.reduceDiv, Int.reduceMod, Int.reducePow, Int.reduceToNat, Int.reduceNatCast, Int.reduceNeg, BitVec.reduceAdd, BitVec.reduceSub, BitVec.reduceMul, BitVec.reduceUDiv, BitVec.reduceUMod, BitVec.reduceDiv, BitVec.reduceMod, BitVec.reduceLT, BitVec.reduceLE, BitVec.reduceEq, BitVec.reduceToNat, BitVec.reduceToInt, BitVec.reduceOfInt, BitVec.reduceSetWidth, BitVec.reduceAnd, BitVec.reduceOr, BitVec.reduceXOr, BitVec.reduceNot, BitVec.reduceHShiftLeft, BitVec.reduceHShiftRight]

def ctRpow : Nat × (List AV → R) := (77, A1 fun n : Int => (0 ≤ n ∧ n ≤ 61, .i (2 ^ n.toNat)))
theorem ctRpow_ok {Ct : List (Nat × (List AV → R))} (h : CtOK Try.prog [] Ct) : CtOK Try.prog [] (ctRpow :: Ct) := CtOK_cons (Row1 fun o h => rpower_fun o h) h
def ctRbytes : Nat × (List AV → R) := (76, A1 fun n : Int => (0 ≤ n, .i (if n % 2 = 1 then 24 else 32)))
theorem ctRbytes_ok {Ct : List (Nat × (List AV → R))} (h : CtOK Try.prog [] Ct) : CtOK Try.prog [] (ctRbytes :: Ct) := CtOK_cons (Row1 fun o h => rbytes_fun o h) h

theorem rup_fun (a b : Int) (h : 0 ≤ a ∧ a ≤ 1000000000 ∧ 0 < b ∧ b ≤ 1000000000) : Fun Try.prog [] 78 [Enc.enc a, Enc.enc b] (.i ((a + b - 1) / b)) := by
  refine Fun_cc [] mo Try.func78 (by decide) cc78 rs78 Try.ntmps78 (by simp) ?_
  refine AW_run CtOK_nil 1000 ?_
  simp (disch := omega) only [go_sem, c78, Int.tdiv_eq_ediv_of_nonneg, reduceIte, Nat.reduceAdd, Nat.reduceSub, Nat.reduceMul, Nat.reduceDiv, Nat.reduceMod, Nat.reducePow, Nat.reduceLT, Nat.reduceLeDiff, Nat.reduceBEq, Nat.reduceEqDiff, Nat.reduceAnd, Int.reduceLT, Int.reduceLE, Int.reduceEq, Int.reduceAdd, Int.reduceSub, Int.reduceMul, Int.reduceDiv, Int.reduceMod, Int.reducePow, Int.reduceToNat, Int.reduceNatCast, Int.reduceNeg, BitVec.reduceAdd, BitVec.reduceSub, BitVec.reduceMul, BitVec.reduceUDiv, BitVec.reduceUMod, BitVec.reduceDiv, BitVec.reduceMod, BitVec.reduceLT, BitVec.reduceLE, BitVec.reduceEq, BitVec.reduceToNat, BitVec.reduceToInt, BitVec.reduceOfInt, BitVec.reduceSetWidth, BitVec.reduceAnd, BitVec.reduceOr, BitVec.reduceXOr, BitVec.reduceNot, BitVec.reduceHShiftLeft, BitVec.reduceHShiftRight]

def bitsS (n : Nat) : Nat := if n = 0 then 0 else n.log2 + 1
theorem bitsS_eq {n b : Nat} (h1 : ∀ j < b, 2 ^ j ≤ n) (h2 : n < 2 ^ b) : b = bitsS n := by
  unfold bitsS
  split
  · rename_i h; subst h
    rcases Nat.eq_zero_or_pos b with h | h
    · exact h
    · have := h1 0 h; simp at this
  · rename_i h
    rcases Nat.eq_zero_or_pos b with h0 | h0
    · subst h0; simp at h2; omega
    · have h3 := h1 (b - 1) (by omega)
      rw [← Nat.le_log2 h] at h3
      rw [← Nat.log2_lt h] at h2
      omega
def σbits (n : Int) (k : Nat) : St := ⟨[(0, .i n), (3, .i k)], [], 0⟩
theorem rbits_fun (n : Int) (h : 0 ≤ n ∧ n < 2 ^ 40) : Fun Try.prog [] 79 [Enc.enc n] (.i (bitsS n.toNat)) := by
  obtain ⟨n, rfl⟩ := Int.eq_ofNat_of_zero_le h.1
  have h4 : n < 2 ^ 40 := by omega
  refine Fun_cc [ctRpow] mo Try.func79 (by decide) cc79 rs79 Try.ntmps79 (by simp) ?_
  refine AW_run (ctRpow_ok CtOK_nil) 1000 ?_
  simp (disch := omega) only [go_sem, c79, reduceIte, Nat.reduceAdd, Nat.reduceSub, Nat.reduceMul, Nat.reduceDiv, Nat.reduceMod, Nat.reducePow, Nat.reduceLT, Nat.reduceLeDiff, Nat.reduceBEq, Nat.reduceEqDiff, Nat.reduceAnd, Int.reduceLT, Int.reduceLE, Int.reduceEq, Int.reduceAdd, Int.reduceSub, Int.reduceMul, Int.reduceDiv, Int.reduceMod, Int.reducePow, Int.reduceToNat, Int.reduceNatCast, Int.reduceNeg, BitVec.reduceAdd, BitVec.reduceSub, BitVec.reduceMul, BitVec.reduceUDiv, BitVec.reduceUMod, BitVec.reduceDiv, BitVec.reduceMod, BitVec.reduceLT, BitVec.reduceLE, BitVec.reduceEq, BitVec.reduceToNat, BitVec.reduceToInt, BitVec.reduceOfInt, BitVec.reduceSetWidth, BitVec.reduceAnd, BitVec.reduceOr, BitVec.reduceXOr, BitVec.reduceNot, BitVec.reduceHShiftLeft, BitVec.reduceHShiftRight]
  refine AW_loop (σbits n) (fun k => k ≤ 40 ∧ ∀ j < k, 2 ^ j ≤ n) (fun k => 40 - k) 0 ⟨by omega, by intro j hj; omega⟩ (Wk_p [] ?_) fun k hk => ?_
  · simp only [go_sem, σbits, reduceIte, Nat.reduceAdd, Nat.reduceSub, Nat.reduceMul, Nat.reduceDiv, Nat.reduceMod, Nat.reducePow, Nat.reduceLT, Nat.reduceLeDiff, Nat.reduceBEq, Nat.reduceEqDiff, Nat.reduceAnd, Int.reduceLT, Int.reduceLE, Int.reduceEq, Int.reduceAdd, Int.reduceSub, Int.reduceMul, Int.reduceDiv, Int.reduceMod, Int.reducePow, Int.reduceToNat, Int.reduceNatCast, Int.reduceNeg, BitVec.reduceAdd, BitVec.reduceSub, BitVec.reduceMul, BitVec.reduceUDiv, BitVec.reduceUMod, BitVec.reduceDiv, BitVec.reduceMod, BitVec.reduceLT, BitVec.reduceLE, BitVec.reduceEq, BitVec.reduceToNat, BitVec.reduceToInt, BitVec.reduceOfInt, BitVec.reduceSetWidth, BitVec.reduceAnd, BitVec.reduceOr, BitVec.reduceXOr, BitVec.reduceNot, BitVec.reduceHShiftLeft, BitVec.reduceHShiftRight]
    simp
  · refine AW_run (ctRpow_ok CtOK_nil) 1000 ?_
    obtain ⟨hk, hj⟩ := hk
    simp (disch := omega) only [go_sem, σbits, ctRpow, reduceIte, Nat.reduceAdd, Nat.reduceSub, Nat.reduceMul, Nat.reduceDiv, Nat.reduceMod, Nat.reducePow, Nat.reduceLT, Nat.reduceLeDiff, Nat.reduceBEq, Nat.reduceEqDiff, Nat.reduceAnd, Int.reduceLT, Int.reduceLE, Int.reduceEq, Int.reduceAdd, Int.reduceSub, Int.reduceMul, Int.reduceDiv, Int.reduceMod, Int.reducePow, Int.reduceToNat, Int.reduceNatCast, Int.reduceNeg, BitVec.reduceAdd, BitVec.reduceSub, BitVec.reduceMul, BitVec.reduceUDiv, BitVec.reduceUMod, BitVec.reduceDiv, BitVec.reduceMod, BitVec.reduceLT, BitVec.reduceLE, BitVec.reduceEq, BitVec.reduceToNat, BitVec.reduceToInt, BitVec.reduceOfInt, BitVec.reduceSetWidth, BitVec.reduceAnd, BitVec.reduceOr, BitVec.reduceXOr, BitVec.reduceNot, BitVec.reduceHShiftLeft, BitVec.reduceHShiftRight]
    have e : (2 : Int) ^ k = ((2 ^ k : Nat) : Int) := by simp
    refine run_br (fun hb => ?_) (fun hb => ?_)
    · have hb1 := of_decide_eq_true hb
      have hlt : 2 ^ k ≤ n := by omega
      have hk4 : k < 40 := by
        rcases Nat.lt_or_ge k 40 with h | h
        · exact h
        · have := Nat.pow_le_pow_right (show 0 < 2 by omega) h; omega
      simp (disch := omega) only [go_sem, reduceIte, Nat.reduceAdd, Nat.reduceSub, Nat.reduceMul, Nat.reduceDiv, Nat.reduceMod, Nat.reducePow, Nat.reduceLT, Nat.reduceLeDiff, Nat.reduceBEq, Nat.reduceEqDiff, Nat.reduceAnd, Int.reduceLT, Int.reduceLE, Int.reduceEq, Int.reduceAdd, Int.reduceSub, Int.reduceMul, Int.reduceDiv, Int.reduceMod, Int.reducePow, Int.reduceToNat, Int.reduceNatCast, Int.reduceNeg, BitVec.reduceAdd, BitVec.reduceSub, BitVec.reduceMul, BitVec.reduceUDiv, BitVec.reduceUMod, BitVec.reduceDiv, BitVec.reduceMod, BitVec.reduceLT, BitVec.reduceLE, BitVec.reduceEq, BitVec.reduceToNat, BitVec.reduceToInt, BitVec.reduceOfInt, BitVec.reduceSetWidth, BitVec.reduceAnd, BitVec.reduceOr, BitVec.reduceXOr, BitVec.reduceNot, BitVec.reduceHShiftLeft, BitVec.reduceHShiftRight]
      refine ⟨k + 1, ⟨by omega, fun j h => ?_⟩, Wk_p [] ?_, by omega⟩
      · rcases Nat.lt_or_ge j k with h5 | h5
        · exact hj j h5
        · have : j = k := by omega
          subst this; exact hlt
      · simp only [go_sem, reduceIte, Nat.reduceAdd, Nat.reduceSub, Nat.reduceMul, Nat.reduceDiv, Nat.reduceMod, Nat.reducePow, Nat.reduceLT, Nat.reduceLeDiff, Nat.reduceBEq, Nat.reduceEqDiff, Nat.reduceAnd, Int.reduceLT, Int.reduceLE, Int.reduceEq, Int.reduceAdd, Int.reduceSub, Int.reduceMul, Int.reduceDiv, Int.reduceMod, Int.reducePow, Int.reduceToNat, Int.reduceNatCast, Int.reduceNeg, BitVec.reduceAdd, BitVec.reduceSub, BitVec.reduceMul, BitVec.reduceUDiv, BitVec.reduceUMod, BitVec.reduceDiv, BitVec.reduceMod, BitVec.reduceLT, BitVec.reduceLE, BitVec.reduceEq, BitVec.reduceToNat, BitVec.reduceToInt, BitVec.reduceOfInt, BitVec.reduceSetWidth, BitVec.reduceAnd, BitVec.reduceOr, BitVec.reduceXOr, BitVec.reduceNot, BitVec.reduceHShiftLeft, BitVec.reduceHShiftRight]
        simp
    · have hb1 := of_decide_eq_false hb
      have hge : n < 2 ^ k := by omega
      have := bitsS_eq hj hge
      simp (disch := omega) only [go_sem, reduceIte, Nat.reduceAdd, Nat.reduceSub, Nat.reduceMul, Nat.reduceDiv, Nat.reduceMod, Nat.reducePow, Nat.reduceLT, Nat.reduceLeDiff, Nat.reduceBEq, Nat.reduceEqDiff, Nat.reduceAnd, Int.reduceLT, Int.reduceLE, Int.reduceEq, Int.reduceAdd, Int.reduceSub, Int.reduceMul, Int.reduceDiv, Int.reduceMod, Int.reducePow, Int.reduceToNat, Int.reduceNatCast, Int.reduceNeg, BitVec.reduceAdd, BitVec.reduceSub, BitVec.reduceMul, BitVec.reduceUDiv, BitVec.reduceUMod, BitVec.reduceDiv, BitVec.reduceMod, BitVec.reduceLT, BitVec.reduceLE, BitVec.reduceEq, BitVec.reduceToNat, BitVec.reduceToInt, BitVec.reduceOfInt, BitVec.reduceSetWidth, BitVec.reduceAnd, BitVec.reduceOr, BitVec.reduceXOr, BitVec.reduceNot, BitVec.reduceHShiftLeft, BitVec.reduceHShiftRight]
      simp [← this]
def ctRbits : Nat × (List AV → R) := (79, A1 fun n : Int => (0 ≤ n ∧ n < 1099511627776, .i (bitsS n.toNat)))
theorem ctRbits_ok {Ct : List (Nat × (List AV → R))} (h : CtOK Try.prog [] Ct) : CtOK Try.prog [] (ctRbits :: Ct) := CtOK_cons (Row1 fun o h => rbits_fun o h) h
def ctRup : Nat × (List AV → R) := (78, A2 fun a b : Int => (0 ≤ a ∧ a ≤ 1000000000 ∧ 0 < b ∧ b ≤ 1000000000, .i ((a + b - 1) / b)))
theorem ctRup_ok {Ct : List (Nat × (List AV → R))} (h : CtOK Try.prog [] Ct) : CtOK Try.prog [] (ctRup :: Ct) := CtOK_cons (Row2 fun a b h => rup_fun a b h) h

theorem rOts_err (c : BitVec 32) (h : c = 0 ∨ 16 < c.toNat) : Fun Try.prog [] 48 [Enc.enc c] (.tup [Enc.enc ots0, .i 60]) := by
  refine Fun_cc [] mo Try.func48 (by decide) cc48 rs48 Try.ntmps48 (by simp) ?_
  refine AW_run CtOK_nil 1000 ?_
  rcases h with rfl | h
  · simp (disch := omega) only [go_sem, c48, ots0, reduceIte, Nat.reduceAdd, Nat.reduceSub, Nat.reduceMul, Nat.reduceDiv, Nat.reduceMod, Nat.reducePow, Nat.reduceLT, Nat.reduceLeDiff, Nat.reduceBEq, Nat.reduceEqDiff, Nat.reduceAnd, Int.reduceLT, Int.reduceLE, Int.reduceEq, Int.reduceAdd, Int.reduceSub, Int.reduceMul, Int.reduceDiv, Int.reduceMod, Int.reducePow, Int.reduceToNat, Int.reduceNatCast, Int.reduceNeg, BitVec.reduceAdd, BitVec.reduceSub, BitVec.reduceMul, BitVec.reduceUDiv, BitVec.reduceUMod, BitVec.reduceDiv, BitVec.reduceMod, BitVec.reduceLT, BitVec.reduceLE, BitVec.reduceEq, BitVec.reduceToNat, BitVec.reduceToInt, BitVec.reduceOfInt, BitVec.reduceSetWidth, BitVec.reduceAnd, BitVec.reduceOr, BitVec.reduceXOr, BitVec.reduceNot, BitVec.reduceHShiftLeft, BitVec.reduceHShiftRight]
  · have h1 : ¬ (c < 1#32) := by rw [BitVec.lt_def]; simp; omega
    have h2 : (16#32 < c) := by rw [BitVec.lt_def]; simpa using h
    simp (disch := omega) only [go_sem, c48, ots0, h1, h2, reduceIte, Nat.reduceAdd, Nat.reduceSub, Nat.reduceMul, Nat.reduceDiv, Nat.reduceMod, Nat.reducePow, Nat.reduceLT, Nat.reduceLeDiff, Nat.reduceBEq, Nat.reduceEqDiff, Nat.reduceAnd, Int.reduceLT, Int.reduceLE, Int.reduceEq, Int.reduceAdd, Int.reduceSub, Int.reduceMul, Int.reduceDiv, Int.reduceMod, Int.reducePow, Int.reduceToNat, Int.reduceNatCast, Int.reduceNeg, BitVec.reduceAdd, BitVec.reduceSub, BitVec.reduceMul, BitVec.reduceUDiv, BitVec.reduceUMod, BitVec.reduceDiv, BitVec.reduceMod, BitVec.reduceLT, BitVec.reduceLE, BitVec.reduceEq, BitVec.reduceToNat, BitVec.reduceToInt, BitVec.reduceOfInt, BitVec.reduceSetWidth, BitVec.reduceAnd, BitVec.reduceOr, BitVec.reduceXOr, BitVec.reduceNot, BitVec.reduceHShiftLeft, BitVec.reduceHShiftRight]

theorem rOts_1 : Fun Try.prog [] 48 [Enc.enc (1 : BitVec 32)] (.tup [Enc.enc (⟨1, false, 32, 1, 265, 7⟩ : Ots), .i 0]) := by
  refine Fun_cc [ctRbytes, ctRpow, ctRbits, ctRup] mo Try.func48 (by decide) cc48 rs48 Try.ntmps48 (by simp) ?_
  refine AW_run (ctRbytes_ok (ctRpow_ok (ctRbits_ok (ctRup_ok CtOK_nil)))) 1000 ?_
  have : bitsS 256 = 9 := by decide +kernel
  simp (disch := omega) only [go_sem, c48, ctRbytes, ctRpow, ctRbits, ctRup, Int.cast_ofNat_Int, this, reduceIte, Nat.reduceAdd, Nat.reduceSub, Nat.reduceMul, Nat.reduceDiv, Nat.reduceMod, Nat.reducePow, Nat.reduceLT, Nat.reduceLeDiff, Nat.reduceBEq, Nat.reduceEqDiff, Nat.reduceAnd, Int.reduceLT, Int.reduceLE, Int.reduceEq, Int.reduceAdd, Int.reduceSub, Int.reduceMul, Int.reduceDiv, Int.reduceMod, Int.reducePow, Int.reduceToNat, Int.reduceNatCast, Int.reduceNeg, BitVec.reduceAdd, BitVec.reduceSub, BitVec.reduceMul, BitVec.reduceUDiv, BitVec.reduceUMod, BitVec.reduceDiv, BitVec.reduceMod, BitVec.reduceLT, BitVec.reduceLE, BitVec.reduceEq, BitVec.reduceToNat, BitVec.reduceToInt, BitVec.reduceOfInt, BitVec.reduceSetWidth, BitVec.reduceAnd, BitVec.reduceOr, BitVec.reduceXOr, BitVec.reduceNot, BitVec.reduceHShiftLeft, BitVec.reduceHShiftRight]
theorem rOts_2 : Fun Try.prog [] 48 [Enc.enc (2 : BitVec 32)] (.tup [Enc.enc (⟨2, false, 32, 2, 133, 6⟩ : Ots), .i 0]) := by
  refine Fun_cc [ctRbytes, ctRpow, ctRbits, ctRup] mo Try.func48 (by decide) cc48 rs48 Try.ntmps48 (by simp) ?_
  refine AW_run (ctRbytes_ok (ctRpow_ok (ctRbits_ok (ctRup_ok CtOK_nil)))) 1000 ?_
  have : bitsS 384 = 9 := by decide +kernel
  simp (disch := omega) only [go_sem, c48, ctRbytes, ctRpow, ctRbits, ctRup, Int.cast_ofNat_Int, this, reduceIte, Nat.reduceAdd, Nat.reduceSub, Nat.reduceMul, Nat.reduceDiv, Nat.reduceMod, Nat.reducePow, Nat.reduceLT, Nat.reduceLeDiff, Nat.reduceBEq, Nat.reduceEqDiff, Nat.reduceAnd, Int.reduceLT, Int.reduceLE, Int.reduceEq, Int.reduceAdd, Int.reduceSub, Int.reduceMul, Int.reduceDiv, Int.reduceMod, Int.reducePow, Int.reduceToNat, Int.reduceNatCast, Int.reduceNeg, BitVec.reduceAdd, BitVec.reduceSub, BitVec.reduceMul, BitVec.reduceUDiv, BitVec.reduceUMod, BitVec.reduceDiv, BitVec.reduceMod, BitVec.reduceLT, BitVec.reduceLE, BitVec.reduceEq, BitVec.reduceToNat, BitVec.reduceToInt, BitVec.reduceOfInt, BitVec.reduceSetWidth, BitVec.reduceAnd, BitVec.reduceOr, BitVec.reduceXOr, BitVec.reduceNot, BitVec.reduceHShiftLeft, BitVec.reduceHShiftRight]
theorem rOts_3 : Fun Try.prog [] 48 [Enc.enc (3 : BitVec 32)] (.tup [Enc.enc (⟨3, false, 32, 4, 67, 4⟩ : Ots), .i 0]) := by
  refine Fun_cc [ctRbytes, ctRpow, ctRbits, ctRup] mo Try.func48 (by decide) cc48 rs48 Try.ntmps48 (by simp) ?_
  refine AW_run (ctRbytes_ok (ctRpow_ok (ctRbits_ok (ctRup_ok CtOK_nil)))) 1000 ?_
  have : bitsS 960 = 10 := by decide +kernel
  simp (disch := omega) only [go_sem, c48, ctRbytes, ctRpow, ctRbits, ctRup, Int.cast_ofNat_Int, this, reduceIte, Nat.reduceAdd, Nat.reduceSub, Nat.reduceMul, Nat.reduceDiv, Nat.reduceMod, Nat.reducePow, Nat.reduceLT, Nat.reduceLeDiff, Nat.reduceBEq, Nat.reduceEqDiff, Nat.reduceAnd, Int.reduceLT, Int.reduceLE, Int.reduceEq, Int.reduceAdd, Int.reduceSub, Int.reduceMul, Int.reduceDiv, Int.reduceMod, Int.reducePow, Int.reduceToNat, Int.reduceNatCast, Int.reduceNeg, BitVec.reduceAdd, BitVec.reduceSub, BitVec.reduceMul, BitVec.reduceUDiv, BitVec.reduceUMod, BitVec.reduceDiv, BitVec.reduceMod, BitVec.reduceLT, BitVec.reduceLE, BitVec.reduceEq, BitVec.reduceToNat, BitVec.reduceToInt, BitVec.reduceOfInt, BitVec.reduceSetWidth, BitVec.reduceAnd, BitVec.reduceOr, BitVec.reduceXOr, BitVec.reduceNot, BitVec.reduceHShiftLeft, BitVec.reduceHShiftRight]
theorem rOts_4 : Fun Try.prog [] 48 [Enc.enc (4 : BitVec 32)] (.tup [Enc.enc (⟨4, false, 32, 8, 34, 0⟩ : Ots), .i 0]) := by
  refine Fun_cc [ctRbytes, ctRpow, ctRbits, ctRup] mo Try.func48 (by decide) cc48 rs48 Try.ntmps48 (by simp) ?_
  refine AW_run (ctRbytes_ok (ctRpow_ok (ctRbits_ok (ctRup_ok CtOK_nil)))) 1000 ?_
  have : bitsS 8160 = 13 := by decide +kernel
  simp (disch := omega) only [go_sem, c48, ctRbytes, ctRpow, ctRbits, ctRup, Int.cast_ofNat_Int, this, reduceIte, Nat.reduceAdd, Nat.reduceSub, Nat.reduceMul, Nat.reduceDiv, Nat.reduceMod, Nat.reducePow, Nat.reduceLT, Nat.reduceLeDiff, Nat.reduceBEq, Nat.reduceEqDiff, Nat.reduceAnd, Int.reduceLT, Int.reduceLE, Int.reduceEq, Int.reduceAdd, Int.reduceSub, Int.reduceMul, Int.reduceDiv, Int.reduceMod, Int.reducePow, Int.reduceToNat, Int.reduceNatCast, Int.reduceNeg, BitVec.reduceAdd, BitVec.reduceSub, BitVec.reduceMul, BitVec.reduceUDiv, BitVec.reduceUMod, BitVec.reduceDiv, BitVec.reduceMod, BitVec.reduceLT, BitVec.reduceLE, BitVec.reduceEq, BitVec.reduceToNat, BitVec.reduceToInt, BitVec.reduceOfInt, BitVec.reduceSetWidth, BitVec.reduceAnd, BitVec.reduceOr, BitVec.reduceXOr, BitVec.reduceNot, BitVec.reduceHShiftLeft, BitVec.reduceHShiftRight]
theorem rOts_5 : Fun Try.prog [] 48 [Enc.enc (5 : BitVec 32)] (.tup [Enc.enc (⟨5, false, 24, 1, 200, 8⟩ : Ots), .i 0]) := by
  refine Fun_cc [ctRbytes, ctRpow, ctRbits, ctRup] mo Try.func48 (by decide) cc48 rs48 Try.ntmps48 (by simp) ?_
  refine AW_run (ctRbytes_ok (ctRpow_ok (ctRbits_ok (ctRup_ok CtOK_nil)))) 1000 ?_
  have : bitsS 192 = 8 := by decide +kernel
  simp (disch := omega) only [go_sem, c48, ctRbytes, ctRpow, ctRbits, ctRup, Int.cast_ofNat_Int, this, reduceIte, Nat.reduceAdd, Nat.reduceSub, Nat.reduceMul, Nat.reduceDiv, Nat.reduceMod, Nat.reducePow, Nat.reduceLT, Nat.reduceLeDiff, Nat.reduceBEq, Nat.reduceEqDiff, Nat.reduceAnd, Int.reduceLT, Int.reduceLE, Int.reduceEq, Int.reduceAdd, Int.reduceSub, Int.reduceMul, Int.reduceDiv, Int.reduceMod, Int.reducePow, Int.reduceToNat, Int.reduceNatCast, Int.reduceNeg, BitVec.reduceAdd, BitVec.reduceSub, BitVec.reduceMul, BitVec.reduceUDiv, BitVec.reduceUMod, BitVec.reduceDiv, BitVec.reduceMod, BitVec.reduceLT, BitVec.reduceLE, BitVec.reduceEq, BitVec.reduceToNat, BitVec.reduceToInt, BitVec.reduceOfInt, BitVec.reduceSetWidth, BitVec.reduceAnd, BitVec.reduceOr, BitVec.reduceXOr, BitVec.reduceNot, BitVec.reduceHShiftLeft, BitVec.reduceHShiftRight]
theorem rOts_6 : Fun Try.prog [] 48 [Enc.enc (6 : BitVec 32)] (.tup [Enc.enc (⟨6, false, 24, 2, 101, 6⟩ : Ots), .i 0]) := by
  refine Fun_cc [ctRbytes, ctRpow, ctRbits, ctRup] mo Try.func48 (by decide) cc48 rs48 Try.ntmps48 (by simp) ?_
  refine AW_run (ctRbytes_ok (ctRpow_ok (ctRbits_ok (ctRup_ok CtOK_nil)))) 1000 ?_
  have : bitsS 288 = 9 := by decide +kernel
  simp (disch := omega) only [go_sem, c48, ctRbytes, ctRpow, ctRbits, ctRup, Int.cast_ofNat_Int, this, reduceIte, Nat.reduceAdd, Nat.reduceSub, Nat.reduceMul, Nat.reduceDiv, Nat.reduceMod, Nat.reducePow, Nat.reduceLT, Nat.reduceLeDiff, Nat.reduceBEq, Nat.reduceEqDiff, Nat.reduceAnd, Int.reduceLT, Int.reduceLE, Int.reduceEq, Int.reduceAdd, Int.reduceSub, Int.reduceMul, Int.reduceDiv, Int.reduceMod, Int.reducePow, Int.reduceToNat, Int.reduceNatCast, Int.reduceNeg, BitVec.reduceAdd, BitVec.reduceSub, BitVec.reduceMul, BitVec.reduceUDiv, BitVec.reduceUMod, BitVec.reduceDiv, BitVec.reduceMod, BitVec.reduceLT, BitVec.reduceLE, BitVec.reduceEq, BitVec.reduceToNat, BitVec.reduceToInt, BitVec.reduceOfInt, BitVec.reduceSetWidth, BitVec.reduceAnd, BitVec.reduceOr, BitVec.reduceXOr, BitVec.reduceNot, BitVec.reduceHShiftLeft, BitVec.reduceHShiftRight]
theorem rOts_7 : Fun Try.prog [] 48 [Enc.enc (7 : BitVec 32)] (.tup [Enc.enc (⟨7, false, 24, 4, 51, 4⟩ : Ots), .i 0]) := by
  refine Fun_cc [ctRbytes, ctRpow, ctRbits, ctRup] mo Try.func48 (by decide) cc48 rs48 Try.ntmps48 (by simp) ?_
  refine AW_run (ctRbytes_ok (ctRpow_ok (ctRbits_ok (ctRup_ok CtOK_nil)))) 1000 ?_
  have : bitsS 720 = 10 := by decide +kernel
  simp (disch := omega) only [go_sem, c48, ctRbytes, ctRpow, ctRbits, ctRup, Int.cast_ofNat_Int, this, reduceIte, Nat.reduceAdd, Nat.reduceSub, Nat.reduceMul, Nat.reduceDiv, Nat.reduceMod, Nat.reducePow, Nat.reduceLT, Nat.reduceLeDiff, Nat.reduceBEq, Nat.reduceEqDiff, Nat.reduceAnd, Int.reduceLT, Int.reduceLE, Int.reduceEq, Int.reduceAdd, Int.reduceSub, Int.reduceMul, Int.reduceDiv, Int.reduceMod, Int.reducePow, Int.reduceToNat, Int.reduceNatCast, Int.reduceNeg, BitVec.reduceAdd, BitVec.reduceSub, BitVec.reduceMul, BitVec.reduceUDiv, BitVec.reduceUMod, BitVec.reduceDiv, BitVec.reduceMod, BitVec.reduceLT, BitVec.reduceLE, BitVec.reduceEq, BitVec.reduceToNat, BitVec.reduceToInt, BitVec.reduceOfInt, BitVec.reduceSetWidth, BitVec.reduceAnd, BitVec.reduceOr, BitVec.reduceXOr, BitVec.reduceNot, BitVec.reduceHShiftLeft, BitVec.reduceHShiftRight]
theorem rOts_8 : Fun Try.prog [] 48 [Enc.enc (8 : BitVec 32)] (.tup [Enc.enc (⟨8, false, 24, 8, 26, 0⟩ : Ots), .i 0]) := by
  refine Fun_cc [ctRbytes, ctRpow, ctRbits, ctRup] mo Try.func48 (by decide) cc48 rs48 Try.ntmps48 (by simp) ?_
  refine AW_run (ctRbytes_ok (ctRpow_ok (ctRbits_ok (ctRup_ok CtOK_nil)))) 1000 ?_
  have : bitsS 6120 = 13 := by decide +kernel
  simp (disch := omega) only [go_sem, c48, ctRbytes, ctRpow, ctRbits, ctRup, Int.cast_ofNat_Int, this, reduceIte, Nat.reduceAdd, Nat.reduceSub, Nat.reduceMul, Nat.reduceDiv, Nat.reduceMod, Nat.reducePow, Nat.reduceLT, Nat.reduceLeDiff, Nat.reduceBEq, Nat.reduceEqDiff, Nat.reduceAnd, Int.reduceLT, Int.reduceLE, Int.reduceEq, Int.reduceAdd, Int.reduceSub, Int.reduceMul, Int.reduceDiv, Int.reduceMod, Int.reducePow, Int.reduceToNat, Int.reduceNatCast, Int.reduceNeg, BitVec.reduceAdd, BitVec.reduceSub, BitVec.reduceMul, BitVec.reduceUDiv, BitVec.reduceUMod, BitVec.reduceDiv, BitVec.reduceMod, BitVec.reduceLT, BitVec.reduceLE, BitVec.reduceEq, BitVec.reduceToNat, BitVec.reduceToInt, BitVec.reduceOfInt, BitVec.reduceSetWidth, BitVec.reduceAnd, BitVec.reduceOr, BitVec.reduceXOr, BitVec.reduceNot, BitVec.reduceHShiftLeft, BitVec.reduceHShiftRight]
theorem rOts_9 : Fun Try.prog [] 48 [Enc.enc (9 : BitVec 32)] (.tup [Enc.enc (⟨9, true, 32, 1, 265, 7⟩ : Ots), .i 0]) := by
  refine Fun_cc [ctRbytes, ctRpow, ctRbits, ctRup] mo Try.func48 (by decide) cc48 rs48 Try.ntmps48 (by simp) ?_
  refine AW_run (ctRbytes_ok (ctRpow_ok (ctRbits_ok (ctRup_ok CtOK_nil)))) 1000 ?_
  have : bitsS 256 = 9 := by decide +kernel
  simp (disch := omega) only [go_sem, c48, ctRbytes, ctRpow, ctRbits, ctRup, Int.cast_ofNat_Int, this, reduceIte, Nat.reduceAdd, Nat.reduceSub, Nat.reduceMul, Nat.reduceDiv, Nat.reduceMod, Nat.reducePow, Nat.reduceLT, Nat.reduceLeDiff, Nat.reduceBEq, Nat.reduceEqDiff, Nat.reduceAnd, Int.reduceLT, Int.reduceLE, Int.reduceEq, Int.reduceAdd, Int.reduceSub, Int.reduceMul, Int.reduceDiv, Int.reduceMod, Int.reducePow, Int.reduceToNat, Int.reduceNatCast, Int.reduceNeg, BitVec.reduceAdd, BitVec.reduceSub, BitVec.reduceMul, BitVec.reduceUDiv, BitVec.reduceUMod, BitVec.reduceDiv, BitVec.reduceMod, BitVec.reduceLT, BitVec.reduceLE, BitVec.reduceEq, BitVec.reduceToNat, BitVec.reduceToInt, BitVec.reduceOfInt, BitVec.reduceSetWidth, BitVec.reduceAnd, BitVec.reduceOr, BitVec.reduceXOr, BitVec.reduceNot, BitVec.reduceHShiftLeft, BitVec.reduceHShiftRight]
theorem rOts_10 : Fun Try.prog [] 48 [Enc.enc (10 : BitVec 32)] (.tup [Enc.enc (⟨10, true, 32, 2, 133, 6⟩ : Ots), .i 0]) := by
  refine Fun_cc [ctRbytes, ctRpow, ctRbits, ctRup] mo Try.func48 (by decide) cc48 rs48 Try.ntmps48 (by simp) ?_
  refine AW_run (ctRbytes_ok (ctRpow_ok (ctRbits_ok (ctRup_ok CtOK_nil)))) 1000 ?_
  have : bitsS 384 = 9 := by decide +kernel
  simp (disch := omega) only [go_sem, c48, ctRbytes, ctRpow, ctRbits, ctRup, Int.cast_ofNat_Int, this, reduceIte, Nat.reduceAdd, Nat.reduceSub, Nat.reduceMul, Nat.reduceDiv, Nat.reduceMod, Nat.reducePow, Nat.reduceLT, Nat.reduceLeDiff, Nat.reduceBEq, Nat.reduceEqDiff, Nat.reduceAnd, Int.reduceLT, Int.reduceLE, Int.reduceEq, Int.reduceAdd, Int.reduceSub, Int.reduceMul, Int.reduceDiv, Int.reduceMod, Int.reducePow, Int.reduceToNat, Int.reduceNatCast, Int.reduceNeg, BitVec.reduceAdd, BitVec.reduceSub, BitVec.reduceMul, BitVec.reduceUDiv, BitVec.reduceUMod, BitVec.reduceDiv, BitVec.reduceMod, BitVec.reduceLT, BitVec.reduceLE, BitVec.reduceEq, BitVec.reduceToNat, BitVec.reduceToInt, BitVec.reduceOfInt, BitVec.reduceSetWidth, BitVec.reduceAnd, BitVec.reduceOr, BitVec.reduceXOr, BitVec.reduceNot, BitVec.reduceHShiftLeft, BitVec.reduceHShiftRight]
theorem rOts_11 : Fun Try.prog [] 48 [Enc.enc (11 : BitVec 32)] (.tup [Enc.enc (⟨11, true, 32, 4, 67, 4⟩ : Ots), .i 0]) := by
  refine Fun_cc [ctRbytes, ctRpow, ctRbits, ctRup] mo Try.func48 (by decide) cc48 rs48 Try.ntmps48 (by simp) ?_
  refine AW_run (ctRbytes_ok (ctRpow_ok (ctRbits_ok (ctRup_ok CtOK_nil)))) 1000 ?_
  have : bitsS 960 = 10 := by decide +kernel
  simp (disch := omega) only [go_sem, c48, ctRbytes, ctRpow, ctRbits, ctRup, Int.cast_ofNat_Int, this, reduceIte, Nat.reduceAdd, Nat.reduceSub, Nat.reduceMul, Nat.reduceDiv, Nat.reduceMod, Nat.reducePow, Nat.reduceLT, Nat.reduceLeDiff, Nat.reduceBEq, Nat.reduceEqDiff, Nat.reduceAnd, Int.reduceLT, Int.reduceLE, Int.reduceEq, Int.reduceAdd, Int.reduceSub, Int.reduceMul, Int.reduceDiv, Int.reduceMod, Int.reducePow, Int.reduceToNat, Int.reduceNatCast, Int.reduceNeg, BitVec.reduceAdd, BitVec.reduceSub, BitVec.reduceMul, BitVec.reduceUDiv, BitVec.reduceUMod, BitVec.reduceDiv, BitVec.reduceMod, BitVec.reduceLT, BitVec.reduceLE, BitVec.reduceEq, BitVec.reduceToNat, BitVec.reduceToInt, BitVec.reduceOfInt, BitVec.reduceSetWidth, BitVec.reduceAnd, BitVec.reduceOr, BitVec.reduceXOr, BitVec.reduceNot, BitVec.reduceHShiftLeft, BitVec.reduceHShiftRight]
theorem rOts_12 : Fun Try.prog [] 48 [Enc.enc (12 : BitVec 32)] (.tup [Enc.enc (⟨12, true, 32, 8, 34, 0⟩ : Ots), .i 0]) := by
  refine Fun_cc [ctRbytes, ctRpow, ctRbits, ctRup] mo Try.func48 (by decide) cc48 rs48 Try.ntmps48 (by simp) ?_
  refine AW_run (ctRbytes_ok (ctRpow_ok (ctRbits_ok (ctRup_ok CtOK_nil)))) 1000 ?_
  have : bitsS 8160 = 13 := by decide +kernel
  simp (disch := omega) only [go_sem, c48, ctRbytes, ctRpow, ctRbits, ctRup, Int.cast_ofNat_Int, this, reduceIte, Nat.reduceAdd, Nat.reduceSub, Nat.reduceMul, Nat.reduceDiv, Nat.reduceMod, Nat.reducePow, Nat.reduceLT, Nat.reduceLeDiff, Nat.reduceBEq, Nat.reduceEqDiff, Nat.reduceAnd, Int.reduceLT, Int.reduceLE, Int.reduceEq, Int.reduceAdd, Int.reduceSub, Int.reduceMul, Int.reduceDiv, Int.reduceMod, Int.reducePow, Int.reduceToNat, Int.reduceNatCast, Int.reduceNeg, BitVec.reduceAdd, BitVec.reduceSub, BitVec.reduceMul, BitVec.reduceUDiv, BitVec.reduceUMod, BitVec.reduceDiv, BitVec.reduceMod, BitVec.reduceLT, BitVec.reduceLE, BitVec.reduceEq, BitVec.reduceToNat, BitVec.reduceToInt, BitVec.reduceOfInt, BitVec.reduceSetWidth, BitVec.reduceAnd, BitVec.reduceOr, BitVec.reduceXOr, BitVec.reduceNot, BitVec.reduceHShiftLeft, BitVec.reduceHShiftRight]
theorem rOts_13 : Fun Try.prog [] 48 [Enc.enc (13 : BitVec 32)] (.tup [Enc.enc (⟨13, true, 24, 1, 200, 8⟩ : Ots), .i 0]) := by
  refine Fun_cc [ctRbytes, ctRpow, ctRbits, ctRup] mo Try.func48 (by decide) cc48 rs48 Try.ntmps48 (by simp) ?_
  refine AW_run (ctRbytes_ok (ctRpow_ok (ctRbits_ok (ctRup_ok CtOK_nil)))) 1000 ?_
  have : bitsS 192 = 8 := by decide +kernel
  simp (disch := omega) only [go_sem, c48, ctRbytes, ctRpow, ctRbits, ctRup, Int.cast_ofNat_Int, this, reduceIte, Nat.reduceAdd, Nat.reduceSub, Nat.reduceMul, Nat.reduceDiv, Nat.reduceMod, Nat.reducePow, Nat.reduceLT, Nat.reduceLeDiff, Nat.reduceBEq, Nat.reduceEqDiff, Nat.reduceAnd, Int.reduceLT, Int.reduceLE, Int.reduceEq, Int.reduceAdd, Int.reduceSub, Int.reduceMul, Int.reduceDiv, Int.reduceMod, Int.reducePow, Int.reduceToNat, Int.reduceNatCast, Int.reduceNeg, BitVec.reduceAdd, BitVec.reduceSub, BitVec.reduceMul, BitVec.reduceUDiv, BitVec.reduceUMod, BitVec.reduceDiv, BitVec.reduceMod, BitVec.reduceLT, BitVec.reduceLE, BitVec.reduceEq, BitVec.reduceToNat, BitVec.reduceToInt, BitVec.reduceOfInt, BitVec.reduceSetWidth, BitVec.reduceAnd, BitVec.reduceOr, BitVec.reduceXOr, BitVec.reduceNot, BitVec.reduceHShiftLeft, BitVec.reduceHShiftRight]
theorem rOts_14 : Fun Try.prog [] 48 [Enc.enc (14 : BitVec 32)] (.tup [Enc.enc (⟨14, true, 24, 2, 101, 6⟩ : Ots), .i 0]) := by
  refine Fun_cc [ctRbytes, ctRpow, ctRbits, ctRup] mo Try.func48 (by decide) cc48 rs48 Try.ntmps48 (by simp) ?_
  refine AW_run (ctRbytes_ok (ctRpow_ok (ctRbits_ok (ctRup_ok CtOK_nil)))) 1000 ?_
  have : bitsS 288 = 9 := by decide +kernel
  simp (disch := omega) only [go_sem, c48, ctRbytes, ctRpow, ctRbits, ctRup, Int.cast_ofNat_Int, this, reduceIte, Nat.reduceAdd, Nat.reduceSub, Nat.reduceMul, Nat.reduceDiv, Nat.reduceMod, Nat.reducePow, Nat.reduceLT, Nat.reduceLeDiff, Nat.reduceBEq, Nat.reduceEqDiff, Nat.reduceAnd, Int.reduceLT, Int.reduceLE, Int.reduceEq, Int.reduceAdd, Int.reduceSub, Int.reduceMul, Int.reduceDiv, Int.reduceMod, Int.reducePow, Int.reduceToNat, Int.reduceNatCast, Int.reduceNeg, BitVec.reduceAdd, BitVec.reduceSub, BitVec.reduceMul, BitVec.reduceUDiv, BitVec.reduceUMod, BitVec.reduceDiv, BitVec.reduceMod, BitVec.reduceLT, BitVec.reduceLE, BitVec.reduceEq, BitVec.reduceToNat, BitVec.reduceToInt, BitVec.reduceOfInt, BitVec.reduceSetWidth, BitVec.reduceAnd, BitVec.reduceOr, BitVec.reduceXOr, BitVec.reduceNot, BitVec.reduceHShiftLeft, BitVec.reduceHShiftRight]
theorem rOts_15 : Fun Try.prog [] 48 [Enc.enc (15 : BitVec 32)] (.tup [Enc.enc (⟨15, true, 24, 4, 51, 4⟩ : Ots), .i 0]) := by
  refine Fun_cc [ctRbytes, ctRpow, ctRbits, ctRup] mo Try.func48 (by decide) cc48 rs48 Try.ntmps48 (by simp) ?_
  refine AW_run (ctRbytes_ok (ctRpow_ok (ctRbits_ok (ctRup_ok CtOK_nil)))) 1000 ?_
  have : bitsS 720 = 10 := by decide +kernel
  simp (disch := omega) only [go_sem, c48, ctRbytes, ctRpow, ctRbits, ctRup, Int.cast_ofNat_Int, this, reduceIte, Nat.reduceAdd, Nat.reduceSub, Nat.reduceMul, Nat.reduceDiv, Nat.reduceMod, Nat.reducePow, Nat.reduceLT, Nat.reduceLeDiff, Nat.reduceBEq, Nat.reduceEqDiff, Nat.reduceAnd, Int.reduceLT, Int.reduceLE, Int.reduceEq, Int.reduceAdd, Int.reduceSub, Int.reduceMul, Int.reduceDiv, Int.reduceMod, Int.reducePow, Int.reduceToNat, Int.reduceNatCast, Int.reduceNeg, BitVec.reduceAdd, BitVec.reduceSub, BitVec.reduceMul, BitVec.reduceUDiv, BitVec.reduceUMod, BitVec.reduceDiv, BitVec.reduceMod, BitVec.reduceLT, BitVec.reduceLE, BitVec.reduceEq, BitVec.reduceToNat, BitVec.reduceToInt, BitVec.reduceOfInt, BitVec.reduceSetWidth, BitVec.reduceAnd, BitVec.reduceOr, BitVec.reduceXOr, BitVec.reduceNot, BitVec.reduceHShiftLeft, BitVec.reduceHShiftRight]
theorem rOts_16 : Fun Try.prog [] 48 [Enc.enc (16 : BitVec 32)] (.tup [Enc.enc (⟨16, true, 24, 8, 26, 0⟩ : Ots), .i 0]) := by
  refine Fun_cc [ctRbytes, ctRpow, ctRbits, ctRup] mo Try.func48 (by decide) cc48 rs48 Try.ntmps48 (by simp) ?_
  refine AW_run (ctRbytes_ok (ctRpow_ok (ctRbits_ok (ctRup_ok CtOK_nil)))) 1000 ?_
  have : bitsS 6120 = 13 := by decide +kernel
  simp (disch := omega) only [go_sem, c48, ctRbytes, ctRpow, ctRbits, ctRup, Int.cast_ofNat_Int, this, reduceIte, Nat.reduceAdd, Nat.reduceSub, Nat.reduceMul, Nat.reduceDiv, Nat.reduceMod, Nat.reducePow, Nat.reduceLT, Nat.reduceLeDiff, Nat.reduceBEq, Nat.reduceEqDiff, Nat.reduceAnd, Int.reduceLT, Int.reduceLE, Int.reduceEq, Int.reduceAdd, Int.reduceSub, Int.reduceMul, Int.reduceDiv, Int.reduceMod, Int.reducePow, Int.reduceToNat, Int.reduceNatCast, Int.reduceNeg, BitVec.reduceAdd, BitVec.reduceSub, BitVec.reduceMul, BitVec.reduceUDiv, BitVec.reduceUMod, BitVec.reduceDiv, BitVec.reduceMod, BitVec.reduceLT, BitVec.reduceLE, BitVec.reduceEq, BitVec.reduceToNat, BitVec.reduceToInt, BitVec.reduceOfInt, BitVec.reduceSetWidth, BitVec.reduceAnd, BitVec.reduceOr, BitVec.reduceXOr, BitVec.reduceNot, BitVec.reduceHShiftLeft, BitVec.reduceHShiftRight]

theorem rOts_fun (c : BitVec 32) : Fun Try.prog [] 48 [Enc.enc c] (otsR c) := by
  by_cases h : c = 0 ∨ 16 < c.toNat
  · have : otsT c = none := by
      unfold otsT
      rcases h with rfl | h
      · rfl
      · split <;> first | rfl | omega
    rw [otsR, this]; exact rOts_err c h
  · have h0 : c.toNat ≠ 0 := fun e => h (.inl (BitVec.eq_of_toNat_eq (by simpa using e)))
    have hc : c = BitVec.ofNat 32 c.toNat := by simp
    generalize c.toNat = k at *
    subst hc
    have hk : 1 ≤ k ∧ k ≤ 16 := by omega
    clear h h0
    obtain ⟨a, b⟩ := hk
    match k, a, b with
    | 1, _, _ => exact rOts_1
    | 2, _, _ => exact rOts_2
    | 3, _, _ => exact rOts_3
    | 4, _, _ => exact rOts_4
    | 5, _, _ => exact rOts_5
    | 6, _, _ => exact rOts_6
    | 7, _, _ => exact rOts_7
    | 8, _, _ => exact rOts_8
    | 9, _, _ => exact rOts_9
    | 10, _, _ => exact rOts_10
    | 11, _, _ => exact rOts_11
    | 12, _, _ => exact rOts_12
    | 13, _, _ => exact rOts_13
    | 14, _, _ => exact rOts_14
    | 15, _, _ => exact rOts_15
    | 16, _, _ => exact rOts_16
    | k + 17, _, hb => omega

def ctROts : Nat × (List AV → R) := (48, A1 fun c : BitVec 32 => (True, otsR c))
theorem ctROts_ok {Ct : List (Nat × (List AV → R))} (h : CtOK Try.prog [] Ct) : CtOK Try.prog [] (ctROts :: Ct) := CtOK_cons (Row1 fun k _ => rOts_fun k) h

theorem rMayOts_fun (o : Ots) : Fun Try.prog [] 51 [Enc.enc o] (.b (decide (otsT o.code = some o))) := by
  refine Fun_cc [ctROts] mo Try.func51 (by decide) cc51 rs51 Try.ntmps51 (by simp) ?_
  refine AW_run (ctROts_ok CtOK_nil) 1000 ?_
  cases h : otsT o.code with
  | none =>
    simp (disch := omega) only [go_sem, c51, ctROts, otsR, h, ots0, reduceIte, Nat.reduceAdd, Nat.reduceSub, Nat.reduceMul, Nat.reduceDiv, Nat.reduceMod, Nat.reducePow, Nat.reduceLT, Nat.reduceLeDiff, Nat.reduceBEq, Nat.reduceEqDiff, Nat.reduceAnd, Int.reduceLT, Int.reduceLE, Int.reduceEq, Int.reduceAdd, Int.reduceSub, Int.reduceMul, Int.reduceDiv, Int.reduceMod, Int.reducePow, Int.reduceToNat, Int.reduceNatCast, Int.reduceNeg, BitVec.reduceAdd, BitVec.reduceSub, BitVec.reduceMul, BitVec.reduceUDiv, BitVec.reduceUMod, BitVec.reduceDiv, BitVec.reduceMod, BitVec.reduceLT, BitVec.reduceLE, BitVec.reduceEq, BitVec.reduceToNat, BitVec.reduceToInt, BitVec.reduceOfInt, BitVec.reduceSetWidth, BitVec.reduceAnd, BitVec.reduceOr, BitVec.reduceXOr, BitVec.reduceNot, BitVec.reduceHShiftLeft, BitVec.reduceHShiftRight]
    simp
  | some x =>
    by_cases e : x = o
    · subst e
      simp (disch := omega) only [go_sem, c51, ctROts, otsR, h, eqL, eq1, reduceIte, Nat.reduceAdd, Nat.reduceSub, Nat.reduceMul, Nat.reduceDiv, Nat.reduceMod, Nat.reducePow, Nat.reduceLT, Nat.reduceLeDiff, Nat.reduceBEq, Nat.reduceEqDiff, Nat.reduceAnd, Int.reduceLT, Int.reduceLE, Int.reduceEq, Int.reduceAdd, Int.reduceSub, Int.reduceMul, Int.reduceDiv, Int.reduceMod, Int.reducePow, Int.reduceToNat, Int.reduceNatCast, Int.reduceNeg, BitVec.reduceAdd, BitVec.reduceSub, BitVec.reduceMul, BitVec.reduceUDiv, BitVec.reduceUMod, BitVec.reduceDiv, BitVec.reduceMod, BitVec.reduceLT, BitVec.reduceLE, BitVec.reduceEq, BitVec.reduceToNat, BitVec.reduceToInt, BitVec.reduceOfInt, BitVec.reduceSetWidth, BitVec.reduceAnd, BitVec.reduceOr, BitVec.reduceXOr, BitVec.reduceNot, BitVec.reduceHShiftLeft, BitVec.reduceHShiftRight]
      try simp
    · have e2 : (x.code = o.code ∧ x.shake = o.shake ∧ x.n = o.n ∧ x.w = o.w ∧ x.p = o.p ∧ x.ls = o.ls) = False := eq_false fun ⟨a, b, c, d, f, g⟩ => e (by cases x; cases o; simp_all)
      simp (disch := omega) only [go_sem, c51, ctROts, otsR, h, eqL, eq1, reduceIte, Nat.reduceAdd, Nat.reduceSub, Nat.reduceMul, Nat.reduceDiv, Nat.reduceMod, Nat.reducePow, Nat.reduceLT, Nat.reduceLeDiff, Nat.reduceBEq, Nat.reduceEqDiff, Nat.reduceAnd, Int.reduceLT, Int.reduceLE, Int.reduceEq, Int.reduceAdd, Int.reduceSub, Int.reduceMul, Int.reduceDiv, Int.reduceMod, Int.reducePow, Int.reduceToNat, Int.reduceNatCast, Int.reduceNeg, BitVec.reduceAdd, BitVec.reduceSub, BitVec.reduceMul, BitVec.reduceUDiv, BitVec.reduceUMod, BitVec.reduceDiv, BitVec.reduceMod, BitVec.reduceLT, BitVec.reduceLE, BitVec.reduceEq, BitVec.reduceToNat, BitVec.reduceToInt, BitVec.reduceOfInt, BitVec.reduceSetWidth, BitVec.reduceAnd, BitVec.reduceOr, BitVec.reduceXOr, BitVec.reduceNot, BitVec.reduceHShiftLeft, BitVec.reduceHShiftRight]
      · have : (decide (x.code = o.code) && (decide (x.shake = o.shake) && (decide (x.n = o.n) && (decide (x.w = o.w) && (decide (x.p = o.p) && decide (x.ls = o.ls)))))) = false := by
          have := e2
          simp only [← Bool.decide_and]; exact decide_eq_false (of_eq_false e2)
        rw [this]; simp [e]
def ctRMayOts : Nat × (List AV → R) := (51, A1 fun o : Ots => (True, .b (decide (otsT o.code = some o))))
theorem ctRMayOts_ok {Ct : List (Nat × (List AV → R))} (h : CtOK Try.prog [] Ct) : CtOK Try.prog [] (ctRMayOts :: Ct) := CtOK_cons (Row1 fun k _ => rMayOts_fun k) h

def rMay (o : Ots) (b : List (BitVec 8)) : Int := if otsT o.code = some o then if (b.length : Int) = o.n then 0 else 1 else 60
theorem rMay_fun (o : Ots) (b : List (BitVec 8)) : Fun Try.prog [] 18 [Enc.enc o, Enc.enc b] (.i (rMay o b)) := by
  refine Fun_cc [ctRMayOts] mo Try.func18 (by decide) cc18 rs18 Try.ntmps18 (by simp) ?_
  refine AW_run (ctRMayOts_ok CtOK_nil) 1000 ?_
  by_cases h : otsT o.code = some o
  · by_cases h2 : (b.length : Int) = o.n
    · simp (disch := omega) only [go_sem, c18, ctRMayOts, h, reduceIte, Nat.reduceAdd, Nat.reduceSub, Nat.reduceMul, Nat.reduceDiv, Nat.reduceMod, Nat.reducePow, Nat.reduceLT, Nat.reduceLeDiff, Nat.reduceBEq, Nat.reduceEqDiff, Nat.reduceAnd, Int.reduceLT, Int.reduceLE, Int.reduceEq, Int.reduceAdd, Int.reduceSub, Int.reduceMul, Int.reduceDiv, Int.reduceMod, Int.reducePow, Int.reduceToNat, Int.reduceNatCast, Int.reduceNeg, BitVec.reduceAdd, BitVec.reduceSub, BitVec.reduceMul, BitVec.reduceUDiv, BitVec.reduceUMod, BitVec.reduceDiv, BitVec.reduceMod, BitVec.reduceLT, BitVec.reduceLE, BitVec.reduceEq, BitVec.reduceToNat, BitVec.reduceToInt, BitVec.reduceOfInt, BitVec.reduceSetWidth, BitVec.reduceAnd, BitVec.reduceOr, BitVec.reduceXOr, BitVec.reduceNot, BitVec.reduceHShiftLeft, BitVec.reduceHShiftRight]
      simp [rMay, h, h2]
    · simp (disch := omega) only [go_sem, c18, ctRMayOts, h, h2, reduceIte, Nat.reduceAdd, Nat.reduceSub, Nat.reduceMul, Nat.reduceDiv, Nat.reduceMod, Nat.reducePow, Nat.reduceLT, Nat.reduceLeDiff, Nat.reduceBEq, Nat.reduceEqDiff, Nat.reduceAnd, Int.reduceLT, Int.reduceLE, Int.reduceEq, Int.reduceAdd, Int.reduceSub, Int.reduceMul, Int.reduceDiv, Int.reduceMod, Int.reducePow, Int.reduceToNat, Int.reduceNatCast, Int.reduceNeg, BitVec.reduceAdd, BitVec.reduceSub, BitVec.reduceMul, BitVec.reduceUDiv, BitVec.reduceUMod, BitVec.reduceDiv, BitVec.reduceMod, BitVec.reduceLT, BitVec.reduceLE, BitVec.reduceEq, BitVec.reduceToNat, BitVec.reduceToInt, BitVec.reduceOfInt, BitVec.reduceSetWidth, BitVec.reduceAnd, BitVec.reduceOr, BitVec.reduceXOr, BitVec.reduceNot, BitVec.reduceHShiftLeft, BitVec.reduceHShiftRight]
      simp [rMay, h, h2]
  · simp (disch := omega) only [go_sem, c18, ctRMayOts, h, reduceIte, Nat.reduceAdd, Nat.reduceSub, Nat.reduceMul, Nat.reduceDiv, Nat.reduceMod, Nat.reducePow, Nat.reduceLT, Nat.reduceLeDiff, Nat.reduceBEq, Nat.reduceEqDiff, Nat.reduceAnd, Int.reduceLT, Int.reduceLE, Int.reduceEq, Int.reduceAdd, Int.reduceSub, Int.reduceMul, Int.reduceDiv, Int.reduceMod, Int.reducePow, Int.reduceToNat, Int.reduceNatCast, Int.reduceNeg, BitVec.reduceAdd, BitVec.reduceSub, BitVec.reduceMul, BitVec.reduceUDiv, BitVec.reduceUMod, BitVec.reduceDiv, BitVec.reduceMod, BitVec.reduceLT, BitVec.reduceLE, BitVec.reduceEq, BitVec.reduceToNat, BitVec.reduceToInt, BitVec.reduceOfInt, BitVec.reduceSetWidth, BitVec.reduceAnd, BitVec.reduceOr, BitVec.reduceXOr, BitVec.reduceNot, BitVec.reduceHShiftLeft, BitVec.reduceHShiftRight]
    simp [rMay, h]
end Go.Lv
