/- A part of the proof. -/
import Derived.Test.YtlieeeembbjenaaVb
import Derived.Test.YtlieeeembbjenaaUg
set_option linter.all false
namespace Go.Lv
open Go Go.Proofs
set_option linter.unusedSimpArgs false
set_option maxRecDepth 100000

def ctSlow : Nat × (List AV → R) := (27, A1 fun A : Ar (BitVec 64) => (A.l.length = 25, Enc.ret (⟨perm A.l⟩ : Ar (BitVec 64))))
theorem ctSlow_ok {Ct : List (Nat × (List AV → R))} (h : CtOK Try.prog [] Ct) : CtOK Try.prog [] (ctSlow :: Ct) := CtOK_cons (Row1 fun A h => Slow_fun A.l h) h
def ctRPerm : Nat × (List AV → R) := (30, A1 fun A : Ar (BitVec 64) => (A.l.length = 25, Enc.ret (⟨perm A.l⟩ : Ar (BitVec 64))))
theorem ctRPerm_ok {Ct : List (Nat × (List AV → R))} (h : CtOK Try.prog [] Ct) : CtOK Try.prog [] (ctRPerm :: Ct) := CtOK_cons (Row1 fun A h => RPermute_fun A.l h) h

set_option maxHeartbeats 2000000 in
theorem KPermutes_fun (A : List (BitVec 64)) (hA : A.length = 25) : Fun Try.prog [] 6 [Enc.enc (⟨A⟩ : Ar (BitVec 64))] (.b true) := by
  refine Fun_cc [ctSlow, ctKlive, ctPerm, ctRPerm] mo Try.func6 (by decide) cc6 rs6 Try.ntmps6 (by simp) ?_
  have hct := ctSlow_ok (ctKlive_ok (ctPerm_ok (ctRPerm_ok CtOK_nil)))
  refine AW_run hct 1000 ?_
  have hpl := perm_len hA
  have hz := z25_len
  have htk : A.take 25 = A := List.take_of_length_le (by omega)
  have htp : (perm A).take 25 = perm A := List.take_of_length_le (by omega)
  have q : eqL [false, false, false, false, false, false, false, false, false, false, false, false, false, false, false, false, false, false, false, false, false, false, false, false, false] ((perm A).map AV.u64) ((perm A).map AV.u64) = some true := by
    have := eqL_64 [false, false, false, false, false, false, false, false, false, false, false, false, false, false, false, false, false, false, false, false, false, false, false, false, false] (perm A) (perm A) rfl hpl hpl
    rw [decide_eq_true rfl] at this
    exact this
  simp (maxSteps := 10000000) (disch := omega) only [go_sem, c6, ctSlow, ctKlive, ctPerm, ctRPerm, htk, htp, hpl, List.drop_succ_cons, List.drop_zero, List.drop_nil, List.append_nil, q, reduceIte, Nat.reduceAdd, Nat.reduceSub, Nat.reduceMul, Nat.reduceDiv, Nat.reduceMod, Nat.reducePow, Nat.reduceLT, Nat.reduceLeDiff, Nat.reduceBEq, Nat.reduceEqDiff, Nat.reduceAnd, Int.reduceLT, Int.reduceLE, Int.reduceEq, Int.reduceAdd, Int.reduceSub, Int.reduceMul, Int.reduceDiv, Int.reduceMod, Int.reducePow, Int.reduceToNat, Int.reduceNatCast, Int.reduceNeg, BitVec.reduceAdd, BitVec.reduceSub, BitVec.reduceMul, BitVec.reduceUDiv, BitVec.reduceUMod, BitVec.reduceDiv, BitVec.reduceMod, BitVec.reduceLT, BitVec.reduceLE, BitVec.reduceEq, BitVec.reduceToNat, BitVec.reduceToInt, BitVec.reduceOfInt, BitVec.reduceSetWidth, BitVec.reduceAnd, BitVec.reduceOr, BitVec.reduceXOr, BitVec.reduceNot, BitVec.reduceHShiftLeft, BitVec.reduceHShiftRight]
end Go.Lv
