/- A part of the proof. -/
import Derived.Test.YtlieeeembbjenaaYg
set_option linter.all false
namespace Go.Lv
open Go Go.Proofs
set_option linter.unusedSimpArgs false
set_option maxRecDepth 100000

def exL : List Level := [⟨4026531858, 6⟩, ⟨4026531859, 6⟩]
theorem exL_may : mayP exL := by decide +kernel
theorem exL_hs : pw (hs exL exL.length) = 32 := by decide +kernel
theorem exL_split : splitL exL (13 : BitVec 64) = [1, 5] := by decide +kernel
theorem exL_splitE : splitE exL (13 : BitVec 64) = 0 := by decide +kernel
theorem nil_may : mayP [] = False := eq_false (by decide +kernel)
set_option maxHeartbeats 4000000 in
theorem live_fun : Fun Try.prog [] 23 [] (.b true) := by
  refine Fun_cc [ctMayL, ctCountL, ctSplit] mo Try.func23 (by decide) cc23 rs23 Try.ntmps23 (by simp) ?_
  have hct := ctMayL_ok (ctCountL_ok (ctSplit_ok CtOK_nil))
  have m := eq_true exL_may
  have h := exL_hs
  have s := exL_split
  have e := exL_splitE
  simp only [exL] at m h s e
  refine AW_run hct 1000 ?_
  simp (maxSteps := 10000000) (disch := omega) only [go_sem, c23, ctMayL, ctCountL, ctSplit, m, h, s, e, nil_may, List.length_cons, List.length_nil, reduceIte, Nat.reduceAdd, Nat.reduceSub, Nat.reduceMul, Nat.reduceDiv, Nat.reduceMod, Nat.reducePow, Nat.reduceLT, Nat.reduceLeDiff, Nat.reduceBEq, Nat.reduceEqDiff, Nat.reduceAnd, Int.reduceLT, Int.reduceLE, Int.reduceEq, Int.reduceAdd, Int.reduceSub, Int.reduceMul, Int.reduceDiv, Int.reduceMod, Int.reducePow, Int.reduceToNat, Int.reduceNatCast, Int.reduceNeg, BitVec.reduceAdd, BitVec.reduceSub, BitVec.reduceMul, BitVec.reduceUDiv, BitVec.reduceUMod, BitVec.reduceDiv, BitVec.reduceMod, BitVec.reduceLT, BitVec.reduceLE, BitVec.reduceEq, BitVec.reduceToNat, BitVec.reduceToInt, BitVec.reduceOfInt, BitVec.reduceSetWidth, BitVec.reduceAnd, BitVec.reduceOr, BitVec.reduceXOr, BitVec.reduceNot, BitVec.reduceHShiftLeft, BitVec.reduceHShiftRight]
def ctLive9 : Nat × (List AV → R) := (23, A0 (True, .b true))
theorem ctLive9_ok {Ct : List (Nat × (List AV → R))} (h : CtOK Try.prog [] Ct) : CtOK Try.prog [] (ctLive9 :: Ct) := CtOK_cons (Row0 fun _ => live_fun) h

set_option maxHeartbeats 4000000 in
theorem HMays_fun (ls : Lvs) (hl : ls.l.length ≤ 140737488351232) : Fun Try.prog [] 14 [Enc.enc ls] (.b true) := by
  refine Fun_cc [ctLive9, ctMayL, ctRMayL, ctCountL, ctCount 25, ctLenL 46, ctLenL 47] mo Try.func14 (by decide) cc14 rs14 Try.ntmps14 (by simp) ?_
  have hct := ctLive9_ok (ctMayL_ok (ctRMayL_ok (ctCountL_ok (ctRCount_ok (ctLenL_ok (ctRLenL_ok CtOK_nil))))))
  by_cases h1 : (100 : Int) < ls.l.length
  · refine AW_run hct 1000 ?_
    simp (maxSteps := 10000000) (disch := omega) only [go_sem, c14, ctLive9, ctMayL, ctRMayL, ctCountL, ctCount, ctLenL, h1, reduceIte, Nat.reduceAdd, Nat.reduceSub, Nat.reduceMul, Nat.reduceDiv, Nat.reduceMod, Nat.reducePow, Nat.reduceLT, Nat.reduceLeDiff, Nat.reduceBEq, Nat.reduceEqDiff, Nat.reduceAnd, Int.reduceLT, Int.reduceLE, Int.reduceEq, Int.reduceAdd, Int.reduceSub, Int.reduceMul, Int.reduceDiv, Int.reduceMod, Int.reducePow, Int.reduceToNat, Int.reduceNatCast, Int.reduceNeg, BitVec.reduceAdd, BitVec.reduceSub, BitVec.reduceMul, BitVec.reduceUDiv, BitVec.reduceUMod, BitVec.reduceDiv, BitVec.reduceMod, BitVec.reduceLT, BitVec.reduceLE, BitVec.reduceEq, BitVec.reduceToNat, BitVec.reduceToInt, BitVec.reduceOfInt, BitVec.reduceSetWidth, BitVec.reduceAnd, BitVec.reduceOr, BitVec.reduceXOr, BitVec.reduceNot, BitVec.reduceHShiftLeft, BitVec.reduceHShiftRight]
  · by_cases hm : mayP ls.l
    · refine AW_run hct 1000 ?_
      simp (maxSteps := 10000000) (disch := omega) only [go_sem, c14, ctLive9, ctMayL, ctRMayL, ctCountL, ctCount, ctLenL, h1, eq_true hm, decide_true, reduceIte, Nat.reduceAdd, Nat.reduceSub, Nat.reduceMul, Nat.reduceDiv, Nat.reduceMod, Nat.reducePow, Nat.reduceLT, Nat.reduceLeDiff, Nat.reduceBEq, Nat.reduceEqDiff, Nat.reduceAnd, Int.reduceLT, Int.reduceLE, Int.reduceEq, Int.reduceAdd, Int.reduceSub, Int.reduceMul, Int.reduceDiv, Int.reduceMod, Int.reducePow, Int.reduceToNat, Int.reduceNatCast, Int.reduceNeg, BitVec.reduceAdd, BitVec.reduceSub, BitVec.reduceMul, BitVec.reduceUDiv, BitVec.reduceUMod, BitVec.reduceDiv, BitVec.reduceMod, BitVec.reduceLT, BitVec.reduceLE, BitVec.reduceEq, BitVec.reduceToNat, BitVec.reduceToInt, BitVec.reduceOfInt, BitVec.reduceSetWidth, BitVec.reduceAnd, BitVec.reduceOr, BitVec.reduceXOr, BitVec.reduceNot, BitVec.reduceHShiftLeft, BitVec.reduceHShiftRight]
      try simp
    · refine AW_run hct 1000 ?_
      simp (maxSteps := 10000000) (disch := omega) only [go_sem, c14, ctLive9, ctMayL, ctRMayL, ctCountL, ctCount, ctLenL, h1, hm, decide_false, reduceIte, Nat.reduceAdd, Nat.reduceSub, Nat.reduceMul, Nat.reduceDiv, Nat.reduceMod, Nat.reducePow, Nat.reduceLT, Nat.reduceLeDiff, Nat.reduceBEq, Nat.reduceEqDiff, Nat.reduceAnd, Int.reduceLT, Int.reduceLE, Int.reduceEq, Int.reduceAdd, Int.reduceSub, Int.reduceMul, Int.reduceDiv, Int.reduceMod, Int.reducePow, Int.reduceToNat, Int.reduceNatCast, Int.reduceNeg, BitVec.reduceAdd, BitVec.reduceSub, BitVec.reduceMul, BitVec.reduceUDiv, BitVec.reduceUMod, BitVec.reduceDiv, BitVec.reduceMod, BitVec.reduceLT, BitVec.reduceLE, BitVec.reduceEq, BitVec.reduceToNat, BitVec.reduceToInt, BitVec.reduceOfInt, BitVec.reduceSetWidth, BitVec.reduceAnd, BitVec.reduceOr, BitVec.reduceXOr, BitVec.reduceNot, BitVec.reduceHShiftLeft, BitVec.reduceHShiftRight]
      try simp
theorem HMays_f (ls : List Level) (hl : ls.length ≤ 140737488351232) : Fun Try.prog [] 14 [.ros false ls.length (lvc ls)] (.b true) := HMays_fun ⟨ls⟩ hl
end Go.Lv
