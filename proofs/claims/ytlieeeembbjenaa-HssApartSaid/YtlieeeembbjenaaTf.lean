/- A part of the proof. -/
import Derived.Test.YtlieeeembbjenaaTe
set_option linter.all false
namespace Go.Lv
open Go Go.Proofs
set_option linter.unusedSimpArgs false
set_option maxRecDepth 100000

theorem Ots_err (c : BitVec 32) (h : c = 0 ∨ 16 < c.toNat) : Fun Try.prog [] 80 [Enc.enc c] (.tup [Enc.enc ots0, .i 60]) := by
  refine Fun_cc [ctHashed] mo Try.func80 (by decide) cc80 rs80 Try.ntmps80 (by simp) ?_
  refine AW_run (ctHashed_ok CtOK_nil) 1000 ?_
  rcases h with rfl | h
  · simp (disch := omega) only [go_sem, c80, ots0, reduceIte, Nat.reduceAdd, Nat.reduceSub, Nat.reduceMul, Nat.reduceDiv, Nat.reduceMod, Nat.reducePow, Nat.reduceLT, Nat.reduceLeDiff, Nat.reduceBEq, Nat.reduceEqDiff, Nat.reduceAnd, Int.reduceLT, Int.reduceLE, Int.reduceEq, Int.reduceAdd, Int.reduceSub, Int.reduceMul, Int.reduceDiv, Int.reduceMod, Int.reducePow, Int.reduceToNat, Int.reduceNatCast, Int.reduceNeg, BitVec.reduceAdd, BitVec.reduceSub, BitVec.reduceMul, BitVec.reduceUDiv, BitVec.reduceUMod, BitVec.reduceDiv, BitVec.reduceMod, BitVec.reduceLT, BitVec.reduceLE, BitVec.reduceEq, BitVec.reduceToNat, BitVec.reduceToInt, BitVec.reduceOfInt, BitVec.reduceSetWidth, BitVec.reduceAnd, BitVec.reduceOr, BitVec.reduceXOr, BitVec.reduceNot, BitVec.reduceHShiftLeft, BitVec.reduceHShiftRight]
  · have h1 : ¬ (c < 1#32) := by rw [BitVec.lt_def]; simp; omega
    have h2 : (16#32 < c) := by rw [BitVec.lt_def]; simpa using h
    simp (disch := omega) only [go_sem, c80, ots0, h1, h2, reduceIte, Nat.reduceAdd, Nat.reduceSub, Nat.reduceMul, Nat.reduceDiv, Nat.reduceMod, Nat.reducePow, Nat.reduceLT, Nat.reduceLeDiff, Nat.reduceBEq, Nat.reduceEqDiff, Nat.reduceAnd, Int.reduceLT, Int.reduceLE, Int.reduceEq, Int.reduceAdd, Int.reduceSub, Int.reduceMul, Int.reduceDiv, Int.reduceMod, Int.reducePow, Int.reduceToNat, Int.reduceNatCast, Int.reduceNeg, BitVec.reduceAdd, BitVec.reduceSub, BitVec.reduceMul, BitVec.reduceUDiv, BitVec.reduceUMod, BitVec.reduceDiv, BitVec.reduceMod, BitVec.reduceLT, BitVec.reduceLE, BitVec.reduceEq, BitVec.reduceToNat, BitVec.reduceToInt, BitVec.reduceOfInt, BitVec.reduceSetWidth, BitVec.reduceAnd, BitVec.reduceOr, BitVec.reduceXOr, BitVec.reduceNot, BitVec.reduceHShiftLeft, BitVec.reduceHShiftRight]

theorem Ots_fun (c : BitVec 32) : Fun Try.prog [] 80 [Enc.enc c] (otsR c) := by
  by_cases h : c = 0 ∨ 16 < c.toNat
  · have : otsT c = none := by
      unfold otsT
      rcases h with rfl | h
      · rfl
      · split <;> first | rfl | omega
    rw [otsR, this]; exact Ots_err c h
  · have h0 : c.toNat ≠ 0 := fun e => h (.inl (BitVec.eq_of_toNat_eq (by simpa using e)))
    have hc : c = BitVec.ofNat 32 c.toNat := by simp
    generalize c.toNat = k at *
    subst hc
    have hk : 1 ≤ k ∧ k ≤ 16 := by omega
    clear h h0
    obtain ⟨a, b⟩ := hk
    match k, a, b with
    | 1, _, _ => exact Ots_1
    | 2, _, _ => exact Ots_2
    | 3, _, _ => exact Ots_3
    | 4, _, _ => exact Ots_4
    | 5, _, _ => exact Ots_5
    | 6, _, _ => exact Ots_6
    | 7, _, _ => exact Ots_7
    | 8, _, _ => exact Ots_8
    | 9, _, _ => exact Ots_9
    | 10, _, _ => exact Ots_10
    | 11, _, _ => exact Ots_11
    | 12, _, _ => exact Ots_12
    | 13, _, _ => exact Ots_13
    | 14, _, _ => exact Ots_14
    | 15, _, _ => exact Ots_15
    | 16, _, _ => exact Ots_16
    | k + 17, _, hb => omega
end Go.Lv
