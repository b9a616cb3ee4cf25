/- A part of the proof. -/
import Derived.Test.YtlieeeembbjenaaFD
import Derived.Test.YtlieeeembbjenaaKa
set_option linter.all false
namespace Go.Lv
open Go Go.Proofs
set_option linter.unusedSimpArgs false
set_option maxRecDepth 100000

theorem mo : Try.prog.follows .mixedOrders = true := by kernel_rfl

theorem pow_le61 {w : Int} (h : w ≤ 61) : 0 < (2 : Int) ^ w.toNat ∧ (2 : Int) ^ w.toNat ≤ 2305843009213693952 := by
  have h1 : (2 : Nat) ^ w.toNat ≤ 2 ^ 61 := Nat.pow_le_pow_right (by omega) (by omega)
  have h2 : (2 : Int) ^ w.toNat = (((2 : Nat) ^ w.toNat : Nat) : Int) := by simp
  have h3 : 0 < (2 : Nat) ^ w.toNat := Nat.pow_pos (by omega)
  rw [h2]; omega

theorem top_fun (o : Ots) (h : 0 ≤ o.w) (h2 : o.w ≤ 61) : Fun Try.prog [] 82 [Enc.enc o] (.i (2 ^ o.w.toNat - 1)) := by
  refine Fun_cc [] mo Try.func82 (by decide) cc82 rs82 Try.ntmps82 (by simp) ?_
  refine AW_run CtOK_nil 1000 ?_
  obtain ⟨p1, p2⟩ := pow_le61 h2
  simp (disch := omega) only [go_sem, c82, Int.one_mul, reduceIte, Nat.reduceAdd, Nat.reduceSub, Nat.reduceMul, Nat.reduceDiv, Nat.reduceMod, Nat.reducePow, Nat.reduceLT, Nat.reduceLeDiff, Nat.reduceBEq, Nat.reduceEqDiff, Nat.reduceAnd, Int.reduceLT, Int.reduceLE, Int.reduceEq, Int.reduceAdd, Int.reduceSub, Int.reduceMul, Int.reduceDiv, Int.reduceMod, Int.reducePow, Int.reduceToNat, Int.reduceNatCast, Int.reduceNeg, BitVec.reduceAdd, BitVec.reduceSub, BitVec.reduceMul, BitVec.reduceUDiv, BitVec.reduceUMod, BitVec.reduceDiv, BitVec.reduceMod, BitVec.reduceLT, BitVec.reduceLE, BitVec.reduceEq, BitVec.reduceToNat, BitVec.reduceToInt, BitVec.reduceOfInt, BitVec.reduceSetWidth, BitVec.reduceAnd, BitVec.reduceOr, BitVec.reduceXOr, BitVec.reduceNot, BitVec.reduceHShiftLeft, BitVec.reduceHShiftRight]

end Go.Lv
