/- A part of the proof. -/
import Derived.Test.YtlieeeembbjenaaTc
set_option linter.all false
namespace Go.Lv
open Go Go.Proofs
set_option linter.unusedSimpArgs false
set_option maxRecDepth 100000

/-- byte i of a number, the lowest first -/
def byteAt (n : BitVec 64) (i : Nat) : BitVec 8 := (n >>> (8 * i)).setWidth 8
/-- a number in k bytes, the highest first -/
def bigL (n : BitVec 64) (k : Nat) : List (BitVec 8) := (List.range k).map fun i => byteAt n (k - 1 - i)
def bigC (n : BitVec 64) (k j : Nat) : List (BitVec 8) := (List.range k).map fun i => if k - 1 - i < j then byteAt n (k - 1 - i) else 0

theorem bigC_len (n : BitVec 64) (k j : Nat) : (bigC n k j).length = k := by simp [bigC]
theorem bigL_len (n : BitVec 64) (k : Nat) : (bigL n k).length = k := by simp [bigL]
theorem bigC_zero (n : BitVec 64) (k : Nat) : bigC n k 0 = List.replicate k 0 := by
  apply List.ext_getElem
  · simp [bigC]
  · intro i h1 h2; simp [bigC]
theorem bigC_all (n : BitVec 64) (k : Nat) : bigC n k k = bigL n k := by
  apply List.ext_getElem
  · simp [bigC, bigL]
  · intro i h1 h2
    have : i < k := by simpa [bigC] using h1
    simp [bigC, bigL]; omega
theorem bigC_set (n : BitVec 64) (k j : Nat) (h : j < k) : (bigC n k j).set (k - 1 - j) (byteAt n j) = bigC n k (j + 1) := by
  apply List.ext_getElem
  · simp [bigC]
  · intro i h1 h2
    have hi : i < k := by simpa [bigC] using h1
    rw [List.getElem_set]
    by_cases e : k - 1 - j = i
    · have : k - 1 - i = j := by omega
      simp [e, bigC, this]
    · rw [if_neg e]
      have : (k - 1 - i < j + 1) = (k - 1 - i < j) := by apply propext; omega
      simp [bigC, this]

def σbig (n : BitVec 64) (k j : Nat) : St := ⟨[(0, .u64 n), (1, .i k), (5, .sl 0 0 k 1), (10, .i k), (11, .i j)], [(0, ⟨(bigC n k j).map .u8, true⟩)], 1⟩

theorem big_fun (n : BitVec 64) (k : Nat) (hk : k ≤ 1000000) : Fun Try.prog [] 99 [Enc.enc n, Enc.enc (k : Int)] (Enc.ret (bigL n k)) := by
  refine Fun_cc [] mo Try.func99 (by decide) cc99 rs99 Try.ntmps99 (by simp) ?_
  refine AW_run CtOK_nil 1000 ?_
  simp (disch := omega) only [go_sem, c99, reduceIte, Nat.reduceAdd, Nat.reduceSub, Nat.reduceMul, Nat.reduceDiv, Nat.reduceMod, Nat.reducePow, Nat.reduceLT, Nat.reduceLeDiff, Nat.reduceBEq, Nat.reduceEqDiff, Nat.reduceAnd, Int.reduceLT, Int.reduceLE, Int.reduceEq, Int.reduceAdd, Int.reduceSub, Int.reduceMul, Int.reduceDiv, Int.reduceMod, Int.reducePow, Int.reduceToNat, Int.reduceNatCast, Int.reduceNeg, BitVec.reduceAdd, BitVec.reduceSub, BitVec.reduceMul, BitVec.reduceUDiv, BitVec.reduceUMod, BitVec.reduceDiv, BitVec.reduceMod, BitVec.reduceLT, BitVec.reduceLE, BitVec.reduceEq, BitVec.reduceToNat, BitVec.reduceToInt, BitVec.reduceOfInt, BitVec.reduceSetWidth, BitVec.reduceAnd, BitVec.reduceOr, BitVec.reduceXOr, BitVec.reduceNot, BitVec.reduceHShiftLeft, BitVec.reduceHShiftRight]
  refine AW_loop (σbig n k) (fun j => j ≤ k) (fun j => k - j) 0 (Nat.zero_le _) (Wk_p [] ?_) fun j hj => ?_
  · simp only [go_sem, σbig, bigC_zero, reduceIte, Nat.reduceAdd, Nat.reduceSub, Nat.reduceMul, Nat.reduceDiv, Nat.reduceMod, Nat.reducePow, Nat.reduceLT, Nat.reduceLeDiff, Nat.reduceBEq, Nat.reduceEqDiff, Nat.reduceAnd, Int.reduceLT, Int.reduceLE, Int.reduceEq, Int.reduceAdd, Int.reduceSub, Int.reduceMul, Int.reduceDiv, Int.reduceMod, Int.reducePow, Int.reduceToNat, Int.reduceNatCast, Int.reduceNeg, BitVec.reduceAdd, BitVec.reduceSub, BitVec.reduceMul, BitVec.reduceUDiv, BitVec.reduceUMod, BitVec.reduceDiv, BitVec.reduceMod, BitVec.reduceLT, BitVec.reduceLE, BitVec.reduceEq, BitVec.reduceToNat, BitVec.reduceToInt, BitVec.reduceOfInt, BitVec.reduceSetWidth, BitVec.reduceAnd, BitVec.reduceOr, BitVec.reduceXOr, BitVec.reduceNot, BitVec.reduceHShiftLeft, BitVec.reduceHShiftRight]
    simp
  · refine AW_run CtOK_nil 1000 ?_
    simp (disch := omega) only [go_sem, σbig, reduceIte, Nat.reduceAdd, Nat.reduceSub, Nat.reduceMul, Nat.reduceDiv, Nat.reduceMod, Nat.reducePow, Nat.reduceLT, Nat.reduceLeDiff, Nat.reduceBEq, Nat.reduceEqDiff, Nat.reduceAnd, Int.reduceLT, Int.reduceLE, Int.reduceEq, Int.reduceAdd, Int.reduceSub, Int.reduceMul, Int.reduceDiv, Int.reduceMod, Int.reducePow, Int.reduceToNat, Int.reduceNatCast, Int.reduceNeg, BitVec.reduceAdd, BitVec.reduceSub, BitVec.reduceMul, BitVec.reduceUDiv, BitVec.reduceUMod, BitVec.reduceDiv, BitVec.reduceMod, BitVec.reduceLT, BitVec.reduceLE, BitVec.reduceEq, BitVec.reduceToNat, BitVec.reduceToInt, BitVec.reduceOfInt, BitVec.reduceSetWidth, BitVec.reduceAnd, BitVec.reduceOr, BitVec.reduceXOr, BitVec.reduceNot, BitVec.reduceHShiftLeft, BitVec.reduceHShiftRight]
    refine run_br (fun hb => ?_) (fun hb => ?_)
    · have hlt : j < k := by simpa using hb
      have hl := bigC_len n k j
      simp (disch := omega) only [go_sem, reduceIte, Nat.reduceAdd, Nat.reduceSub, Nat.reduceMul, Nat.reduceDiv, Nat.reduceMod, Nat.reducePow, Nat.reduceLT, Nat.reduceLeDiff, Nat.reduceBEq, Nat.reduceEqDiff, Nat.reduceAnd, Int.reduceLT, Int.reduceLE, Int.reduceEq, Int.reduceAdd, Int.reduceSub, Int.reduceMul, Int.reduceDiv, Int.reduceMod, Int.reducePow, Int.reduceToNat, Int.reduceNatCast, Int.reduceNeg, BitVec.reduceAdd, BitVec.reduceSub, BitVec.reduceMul, BitVec.reduceUDiv, BitVec.reduceUMod, BitVec.reduceDiv, BitVec.reduceMod, BitVec.reduceLT, BitVec.reduceLE, BitVec.reduceEq, BitVec.reduceToNat, BitVec.reduceToInt, BitVec.reduceOfInt, BitVec.reduceSetWidth, BitVec.reduceAnd, BitVec.reduceOr, BitVec.reduceXOr, BitVec.reduceNot, BitVec.reduceHShiftLeft, BitVec.reduceHShiftRight]
      have e1 : ((k : Int) - 1 - j).toNat = k - 1 - j := by omega
      have e2 : (8 * (j : Int)).toNat = 8 * j := by omega
      refine ⟨j + 1, by omega, Wk_p [] ?_, by omega⟩
      simp only [go_sem, reduceIte, Nat.reduceAdd, Nat.reduceSub, Nat.reduceMul, Nat.reduceDiv, Nat.reduceMod, Nat.reducePow, Nat.reduceLT, Nat.reduceLeDiff, Nat.reduceBEq, Nat.reduceEqDiff, Nat.reduceAnd, Int.reduceLT, Int.reduceLE, Int.reduceEq, Int.reduceAdd, Int.reduceSub, Int.reduceMul, Int.reduceDiv, Int.reduceMod, Int.reducePow, Int.reduceToNat, Int.reduceNatCast, Int.reduceNeg, BitVec.reduceAdd, BitVec.reduceSub, BitVec.reduceMul, BitVec.reduceUDiv, BitVec.reduceUMod, BitVec.reduceDiv, BitVec.reduceMod, BitVec.reduceLT, BitVec.reduceLE, BitVec.reduceEq, BitVec.reduceToNat, BitVec.reduceToInt, BitVec.reduceOfInt, BitVec.reduceSetWidth, BitVec.reduceAnd, BitVec.reduceOr, BitVec.reduceXOr, BitVec.reduceNot, BitVec.reduceHShiftLeft, BitVec.reduceHShiftRight]
      simp [e1, e2, ← bigC_set n k j hlt, byteAt]
    · have hge : j = k := by have : ¬ j < k := by simpa using hb
                             omega
      subst hge
      have hl := bigL_len n j
      simp (disch := omega) only [go_sem, bigC_all, reduceIte, Nat.reduceAdd, Nat.reduceSub, Nat.reduceMul, Nat.reduceDiv, Nat.reduceMod, Nat.reducePow, Nat.reduceLT, Nat.reduceLeDiff, Nat.reduceBEq, Nat.reduceEqDiff, Nat.reduceAnd, Int.reduceLT, Int.reduceLE, Int.reduceEq, Int.reduceAdd, Int.reduceSub, Int.reduceMul, Int.reduceDiv, Int.reduceMod, Int.reducePow, Int.reduceToNat, Int.reduceNatCast, Int.reduceNeg, BitVec.reduceAdd, BitVec.reduceSub, BitVec.reduceMul, BitVec.reduceUDiv, BitVec.reduceUMod, BitVec.reduceDiv, BitVec.reduceMod, BitVec.reduceLT, BitVec.reduceLE, BitVec.reduceEq, BitVec.reduceToNat, BitVec.reduceToInt, BitVec.reduceOfInt, BitVec.reduceSetWidth, BitVec.reduceAnd, BitVec.reduceOr, BitVec.reduceXOr, BitVec.reduceNot, BitVec.reduceHShiftLeft, BitVec.reduceHShiftRight]
      trace_state
      simp [← List.map_take, List.take_of_length_le, hl]

theorem U16_fun (n : BitVec 16) : Fun Try.prog [] 83 [Enc.enc n] (Enc.ret (bigL (n.setWidth 64) 2)) := by
  refine Fun_cc [(99, A2 fun (n : BitVec 64) (k : Int) => (0 ≤ k ∧ k ≤ 1000000, Enc.ret (bigL n k.toNat)))] mo Try.func83 (by decide) cc83 rs83 Try.ntmps83 (by simp) ?_
  refine AW_run (CtOK_cons (Row2 fun n k h => ?_) CtOK_nil) 1000 ?_
  · obtain ⟨k, rfl⟩ := Int.eq_ofNat_of_zero_le h.1
    exact big_fun n k (by have := h.2; omega)
  · simp (disch := omega) only [go_sem, c83, reduceIte, Nat.reduceAdd, Nat.reduceSub, Nat.reduceMul, Nat.reduceDiv, Nat.reduceMod, Nat.reducePow, Nat.reduceLT, Nat.reduceLeDiff, Nat.reduceBEq, Nat.reduceEqDiff, Nat.reduceAnd, Int.reduceLT, Int.reduceLE, Int.reduceEq, Int.reduceAdd, Int.reduceSub, Int.reduceMul, Int.reduceDiv, Int.reduceMod, Int.reducePow, Int.reduceToNat, Int.reduceNatCast, Int.reduceNeg, BitVec.reduceAdd, BitVec.reduceSub, BitVec.reduceMul, BitVec.reduceUDiv, BitVec.reduceUMod, BitVec.reduceDiv, BitVec.reduceMod, BitVec.reduceLT, BitVec.reduceLE, BitVec.reduceEq, BitVec.reduceToNat, BitVec.reduceToInt, BitVec.reduceOfInt, BitVec.reduceSetWidth, BitVec.reduceAnd, BitVec.reduceOr, BitVec.reduceXOr, BitVec.reduceNot, BitVec.reduceHShiftLeft, BitVec.reduceHShiftRight]
end Go.Lv
