/- A part of the proof. -/
import Derived.Test.YtlieeeembbjenaaTc
import Derived.Test.YtlieeeembbjenaaFD
set_option linter.all false
namespace Go.Lv
open Go Go.Proofs
set_option linter.unusedSimpArgs false
set_option maxRecDepth 100000

theorem baOf_inj (a b : List (BitVec 8)) : (baOf (a.map AV.u8) = baOf (b.map AV.u8)) = (a = b) := by
  apply propext
  constructor
  · intro h
    have h1 := congrArg (fun x : ByteArray => x.data.toList) h
    simp only [baOf, List.map_map] at h1
    exact (List.map_inj_right (f := u8of ∘ AV.u8) (fun x y hxy => by simpa [u8of, Function.comp] using congrArg UInt8.toBitVec hxy)).1 h1
  · rintro rfl; rfl
theorem Equal_fun (a b : List (BitVec 8)) : Fun Try.prog [] 20 [Enc.enc a, Enc.enc b] (.b (decide (a = b))) := by
  refine Fun_cc [] mo Try.func20 (by decide) cc20 rs20 Try.ntmps20 (by simp) ?_
  refine AW_run CtOK_nil 1000 ?_
  simp (disch := omega) only [go_sem, c20, baOf_inj, reduceIte, Nat.reduceAdd, Nat.reduceSub, Nat.reduceMul, Nat.reduceDiv, Nat.reduceMod, Nat.reducePow, Nat.reduceLT, Nat.reduceLeDiff, Nat.reduceBEq, Nat.reduceEqDiff, Nat.reduceAnd, Int.reduceLT, Int.reduceLE, Int.reduceEq, Int.reduceAdd, Int.reduceSub, Int.reduceMul, Int.reduceDiv, Int.reduceMod, Int.reducePow, Int.reduceToNat, Int.reduceNatCast, Int.reduceNeg, BitVec.reduceAdd, BitVec.reduceSub, BitVec.reduceMul, BitVec.reduceUDiv, BitVec.reduceUMod, BitVec.reduceDiv, BitVec.reduceMod, BitVec.reduceLT, BitVec.reduceLE, BitVec.reduceEq, BitVec.reduceToNat, BitVec.reduceToInt, BitVec.reduceOfInt, BitVec.reduceSetWidth, BitVec.reduceAnd, BitVec.reduceOr, BitVec.reduceXOr, BitVec.reduceNot, BitVec.reduceHShiftLeft, BitVec.reduceHShiftRight]
def ctEqual : Nat × (List AV → R) := (20, A2 fun a b : List (BitVec 8) => (True, .b (decide (a = b))))
theorem ctEqual_ok {Ct : List (Nat × (List AV → R))} (h : CtOK Try.prog [] Ct) : CtOK Try.prog [] (ctEqual :: Ct) := CtOK_cons (Row2 fun a b _ => Equal_fun a b) h

end Go.Lv
