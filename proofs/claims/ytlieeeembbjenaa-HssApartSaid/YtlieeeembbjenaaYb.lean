/- A part of the proof. -/
import Derived.Test.YtlieeeembbjenaaYa
set_option linter.all false
namespace Go.Lv
open Go Go.Proofs
set_option linter.unusedSimpArgs false
set_option maxRecDepth 100000

def ctLms (n : Nat) : Nat × (List AV → R) := (n, A1 fun c : BitVec 32 => (True, lmsR c))
theorem ctLms_ok {Ct : List (Nat × (List AV → R))} (h : CtOK Try.prog [] Ct) : CtOK Try.prog [] (ctLms 84 :: Ct) := CtOK_cons (Row1 fun k _ => Lms_fun k) h
theorem ctRLms_ok {Ct : List (Nat × (List AV → R))} (h : CtOK Try.prog [] Ct) : CtOK Try.prog [] (ctLms 59 :: Ct) := CtOK_cons (Row1 fun k _ => rLms_fun k) h

theorem isLms_fun (o : Lms) : Fun Try.prog [] 95 [Enc.enc o] (.b (decide (lmsT o.code = some o))) := by
  refine Fun_cc [ctLms 84] mo Try.func95 (by decide) cc95 rs95 Try.ntmps95 (by simp) ?_
  refine AW_run (ctLms_ok CtOK_nil) 1000 ?_
  cases h : lmsT o.code with
  | none =>
    simp (maxSteps := 10000000) (disch := omega) only [go_sem, c95, ctLms, lmsR, h, lms0, reduceIte, Nat.reduceAdd, Nat.reduceSub, Nat.reduceMul, Nat.reduceDiv, Nat.reduceMod, Nat.reducePow, Nat.reduceLT, Nat.reduceLeDiff, Nat.reduceBEq, Nat.reduceEqDiff, Nat.reduceAnd, Int.reduceLT, Int.reduceLE, Int.reduceEq, Int.reduceAdd, Int.reduceSub, Int.reduceMul, Int.reduceDiv, Int.reduceMod, Int.reducePow, Int.reduceToNat, Int.reduceNatCast, Int.reduceNeg, BitVec.reduceAdd, BitVec.reduceSub, BitVec.reduceMul, BitVec.reduceUDiv, BitVec.reduceUMod, BitVec.reduceDiv, BitVec.reduceMod, BitVec.reduceLT, BitVec.reduceLE, BitVec.reduceEq, BitVec.reduceToNat, BitVec.reduceToInt, BitVec.reduceOfInt, BitVec.reduceSetWidth, BitVec.reduceAnd, BitVec.reduceOr, BitVec.reduceXOr, BitVec.reduceNot, BitVec.reduceHShiftLeft, BitVec.reduceHShiftRight]
    simp
  | some x =>
    by_cases e : x = o
    · subst e
      simp (maxSteps := 10000000) (disch := omega) only [go_sem, c95, ctLms, lmsR, h, eqL, eq1, reduceIte, Nat.reduceAdd, Nat.reduceSub, Nat.reduceMul, Nat.reduceDiv, Nat.reduceMod, Nat.reducePow, Nat.reduceLT, Nat.reduceLeDiff, Nat.reduceBEq, Nat.reduceEqDiff, Nat.reduceAnd, Int.reduceLT, Int.reduceLE, Int.reduceEq, Int.reduceAdd, Int.reduceSub, Int.reduceMul, Int.reduceDiv, Int.reduceMod, Int.reducePow, Int.reduceToNat, Int.reduceNatCast, Int.reduceNeg, BitVec.reduceAdd, BitVec.reduceSub, BitVec.reduceMul, BitVec.reduceUDiv, BitVec.reduceUMod, BitVec.reduceDiv, BitVec.reduceMod, BitVec.reduceLT, BitVec.reduceLE, BitVec.reduceEq, BitVec.reduceToNat, BitVec.reduceToInt, BitVec.reduceOfInt, BitVec.reduceSetWidth, BitVec.reduceAnd, BitVec.reduceOr, BitVec.reduceXOr, BitVec.reduceNot, BitVec.reduceHShiftLeft, BitVec.reduceHShiftRight]
      try simp
    · have e2 : (x.code = o.code ∧ x.shake = o.shake ∧ x.n = o.n ∧ x.h = o.h) = False := eq_false fun ⟨a, b, c, d⟩ => e (by cases x; cases o; simp_all)
      simp (maxSteps := 10000000) (disch := omega) only [go_sem, c95, ctLms, lmsR, h, eqL, eq1, reduceIte, Nat.reduceAdd, Nat.reduceSub, Nat.reduceMul, Nat.reduceDiv, Nat.reduceMod, Nat.reducePow, Nat.reduceLT, Nat.reduceLeDiff, Nat.reduceBEq, Nat.reduceEqDiff, Nat.reduceAnd, Int.reduceLT, Int.reduceLE, Int.reduceEq, Int.reduceAdd, Int.reduceSub, Int.reduceMul, Int.reduceDiv, Int.reduceMod, Int.reducePow, Int.reduceToNat, Int.reduceNatCast, Int.reduceNeg, BitVec.reduceAdd, BitVec.reduceSub, BitVec.reduceMul, BitVec.reduceUDiv, BitVec.reduceUMod, BitVec.reduceDiv, BitVec.reduceMod, BitVec.reduceLT, BitVec.reduceLE, BitVec.reduceEq, BitVec.reduceToNat, BitVec.reduceToInt, BitVec.reduceOfInt, BitVec.reduceSetWidth, BitVec.reduceAnd, BitVec.reduceOr, BitVec.reduceXOr, BitVec.reduceNot, BitVec.reduceHShiftLeft, BitVec.reduceHShiftRight]
      · have : (decide (x.code = o.code) && (decide (x.shake = o.shake) && (decide (x.n = o.n) && decide (x.h = o.h)))) = false := by
          have := e2
          simp only [← Bool.decide_and]; exact decide_eq_false (of_eq_false e2)
        rw [this]; simp [e]
theorem rMayLms_fun (o : Lms) : Fun Try.prog [] 97 [Enc.enc o] (.b (decide (lmsT o.code = some o))) := by
  refine Fun_cc [ctLms 59] mo Try.func97 (by decide) cc97 rs97 Try.ntmps97 (by simp) ?_
  refine AW_run (ctRLms_ok CtOK_nil) 1000 ?_
  cases h : lmsT o.code with
  | none =>
    simp (maxSteps := 10000000) (disch := omega) only [go_sem, c97, ctLms, lmsR, h, lms0, reduceIte, Nat.reduceAdd, Nat.reduceSub, Nat.reduceMul, Nat.reduceDiv, Nat.reduceMod, Nat.reducePow, Nat.reduceLT, Nat.reduceLeDiff, Nat.reduceBEq, Nat.reduceEqDiff, Nat.reduceAnd, Int.reduceLT, Int.reduceLE, Int.reduceEq, Int.reduceAdd, Int.reduceSub, Int.reduceMul, Int.reduceDiv, Int.reduceMod, Int.reducePow, Int.reduceToNat, Int.reduceNatCast, Int.reduceNeg, BitVec.reduceAdd, BitVec.reduceSub, BitVec.reduceMul, BitVec.reduceUDiv, BitVec.reduceUMod, BitVec.reduceDiv, BitVec.reduceMod, BitVec.reduceLT, BitVec.reduceLE, BitVec.reduceEq, BitVec.reduceToNat, BitVec.reduceToInt, BitVec.reduceOfInt, BitVec.reduceSetWidth, BitVec.reduceAnd, BitVec.reduceOr, BitVec.reduceXOr, BitVec.reduceNot, BitVec.reduceHShiftLeft, BitVec.reduceHShiftRight]
    simp
  | some x =>
    by_cases e : x = o
    · subst e
      simp (maxSteps := 10000000) (disch := omega) only [go_sem, c97, ctLms, lmsR, h, eqL, eq1, reduceIte, Nat.reduceAdd, Nat.reduceSub, Nat.reduceMul, Nat.reduceDiv, Nat.reduceMod, Nat.reducePow, Nat.reduceLT, Nat.reduceLeDiff, Nat.reduceBEq, Nat.reduceEqDiff, Nat.reduceAnd, Int.reduceLT, Int.reduceLE, Int.reduceEq, Int.reduceAdd, Int.reduceSub, Int.reduceMul, Int.reduceDiv, Int.reduceMod, Int.reducePow, Int.reduceToNat, Int.reduceNatCast, Int.reduceNeg, BitVec.reduceAdd, BitVec.reduceSub, BitVec.reduceMul, BitVec.reduceUDiv, BitVec.reduceUMod, BitVec.reduceDiv, BitVec.reduceMod, BitVec.reduceLT, BitVec.reduceLE, BitVec.reduceEq, BitVec.reduceToNat, BitVec.reduceToInt, BitVec.reduceOfInt, BitVec.reduceSetWidth, BitVec.reduceAnd, BitVec.reduceOr, BitVec.reduceXOr, BitVec.reduceNot, BitVec.reduceHShiftLeft, BitVec.reduceHShiftRight]
      try simp
    · have e2 : (x.code = o.code ∧ x.shake = o.shake ∧ x.n = o.n ∧ x.h = o.h) = False := eq_false fun ⟨a, b, c, d⟩ => e (by cases x; cases o; simp_all)
      simp (maxSteps := 10000000) (disch := omega) only [go_sem, c97, ctLms, lmsR, h, eqL, eq1, reduceIte, Nat.reduceAdd, Nat.reduceSub, Nat.reduceMul, Nat.reduceDiv, Nat.reduceMod, Nat.reducePow, Nat.reduceLT, Nat.reduceLeDiff, Nat.reduceBEq, Nat.reduceEqDiff, Nat.reduceAnd, Int.reduceLT, Int.reduceLE, Int.reduceEq, Int.reduceAdd, Int.reduceSub, Int.reduceMul, Int.reduceDiv, Int.reduceMod, Int.reducePow, Int.reduceToNat, Int.reduceNatCast, Int.reduceNeg, BitVec.reduceAdd, BitVec.reduceSub, BitVec.reduceMul, BitVec.reduceUDiv, BitVec.reduceUMod, BitVec.reduceDiv, BitVec.reduceMod, BitVec.reduceLT, BitVec.reduceLE, BitVec.reduceEq, BitVec.reduceToNat, BitVec.reduceToInt, BitVec.reduceOfInt, BitVec.reduceSetWidth, BitVec.reduceAnd, BitVec.reduceOr, BitVec.reduceXOr, BitVec.reduceNot, BitVec.reduceHShiftLeft, BitVec.reduceHShiftRight]
      · have : (decide (x.code = o.code) && (decide (x.shake = o.shake) && (decide (x.n = o.n) && decide (x.h = o.h)))) = false := by
          have := e2
          simp only [← Bool.decide_and]; exact decide_eq_false (of_eq_false e2)
        rw [this]; simp [e]
theorem isOts_fun (o : Ots) : Fun Try.prog [] 101 [Enc.enc o] (.b (decide (otsT o.code = some o))) := by
  refine Fun_cc [ctOts] mo Try.func101 (by decide) cc101 rs101 Try.ntmps101 (by simp) ?_
  refine AW_run (ctOts_ok CtOK_nil) 1000 ?_
  cases h : otsT o.code with
  | none =>
    simp (maxSteps := 10000000) (disch := omega) only [go_sem, c101, ctOts, otsR, h, ots0, reduceIte, Nat.reduceAdd, Nat.reduceSub, Nat.reduceMul, Nat.reduceDiv, Nat.reduceMod, Nat.reducePow, Nat.reduceLT, Nat.reduceLeDiff, Nat.reduceBEq, Nat.reduceEqDiff, Nat.reduceAnd, Int.reduceLT, Int.reduceLE, Int.reduceEq, Int.reduceAdd, Int.reduceSub, Int.reduceMul, Int.reduceDiv, Int.reduceMod, Int.reducePow, Int.reduceToNat, Int.reduceNatCast, Int.reduceNeg, BitVec.reduceAdd, BitVec.reduceSub, BitVec.reduceMul, BitVec.reduceUDiv, BitVec.reduceUMod, BitVec.reduceDiv, BitVec.reduceMod, BitVec.reduceLT, BitVec.reduceLE, BitVec.reduceEq, BitVec.reduceToNat, BitVec.reduceToInt, BitVec.reduceOfInt, BitVec.reduceSetWidth, BitVec.reduceAnd, BitVec.reduceOr, BitVec.reduceXOr, BitVec.reduceNot, BitVec.reduceHShiftLeft, BitVec.reduceHShiftRight]
    simp
  | some x =>
    by_cases e : x = o
    · subst e
      simp (maxSteps := 10000000) (disch := omega) only [go_sem, c101, ctOts, otsR, h, eqL, eq1, reduceIte, Nat.reduceAdd, Nat.reduceSub, Nat.reduceMul, Nat.reduceDiv, Nat.reduceMod, Nat.reducePow, Nat.reduceLT, Nat.reduceLeDiff, Nat.reduceBEq, Nat.reduceEqDiff, Nat.reduceAnd, Int.reduceLT, Int.reduceLE, Int.reduceEq, Int.reduceAdd, Int.reduceSub, Int.reduceMul, Int.reduceDiv, Int.reduceMod, Int.reducePow, Int.reduceToNat, Int.reduceNatCast, Int.reduceNeg, BitVec.reduceAdd, BitVec.reduceSub, BitVec.reduceMul, BitVec.reduceUDiv, BitVec.reduceUMod, BitVec.reduceDiv, BitVec.reduceMod, BitVec.reduceLT, BitVec.reduceLE, BitVec.reduceEq, BitVec.reduceToNat, BitVec.reduceToInt, BitVec.reduceOfInt, BitVec.reduceSetWidth, BitVec.reduceAnd, BitVec.reduceOr, BitVec.reduceXOr, BitVec.reduceNot, BitVec.reduceHShiftLeft, BitVec.reduceHShiftRight]
      try simp
    · have e2 : (x.code = o.code ∧ x.shake = o.shake ∧ x.n = o.n ∧ x.w = o.w ∧ x.p = o.p ∧ x.ls = o.ls) = False := eq_false fun ⟨a, b, c, d, f, g⟩ => e (by cases x; cases o; simp_all)
      simp (maxSteps := 10000000) (disch := omega) only [go_sem, c101, ctOts, otsR, h, eqL, eq1, reduceIte, Nat.reduceAdd, Nat.reduceSub, Nat.reduceMul, Nat.reduceDiv, Nat.reduceMod, Nat.reducePow, Nat.reduceLT, Nat.reduceLeDiff, Nat.reduceBEq, Nat.reduceEqDiff, Nat.reduceAnd, Int.reduceLT, Int.reduceLE, Int.reduceEq, Int.reduceAdd, Int.reduceSub, Int.reduceMul, Int.reduceDiv, Int.reduceMod, Int.reducePow, Int.reduceToNat, Int.reduceNatCast, Int.reduceNeg, BitVec.reduceAdd, BitVec.reduceSub, BitVec.reduceMul, BitVec.reduceUDiv, BitVec.reduceUMod, BitVec.reduceDiv, BitVec.reduceMod, BitVec.reduceLT, BitVec.reduceLE, BitVec.reduceEq, BitVec.reduceToNat, BitVec.reduceToInt, BitVec.reduceOfInt, BitVec.reduceSetWidth, BitVec.reduceAnd, BitVec.reduceOr, BitVec.reduceXOr, BitVec.reduceNot, BitVec.reduceHShiftLeft, BitVec.reduceHShiftRight]
      · have : (decide (x.code = o.code) && (decide (x.shake = o.shake) && (decide (x.n = o.n) && (decide (x.w = o.w) && (decide (x.p = o.p) && decide (x.ls = o.ls)))))) = false := by
          have := e2
          simp only [← Bool.decide_and]; exact decide_eq_false (of_eq_false e2)
        rw [this]; simp [e]
def ctIsLms (n : Nat) : Nat × (List AV → R) := (n, A1 fun o : Lms => (True, .b (decide (lmsT o.code = some o))))
theorem ctIsLms_ok {Ct : List (Nat × (List AV → R))} (h : CtOK Try.prog [] Ct) : CtOK Try.prog [] (ctIsLms 95 :: Ct) := CtOK_cons (Row1 fun k _ => isLms_fun k) h
theorem ctRMayLms_ok {Ct : List (Nat × (List AV → R))} (h : CtOK Try.prog [] Ct) : CtOK Try.prog [] (ctIsLms 97 :: Ct) := CtOK_cons (Row1 fun k _ => rMayLms_fun k) h
def ctIsOts : Nat × (List AV → R) := (101, A1 fun o : Ots => (True, .b (decide (otsT o.code = some o))))
theorem ctIsOts_ok {Ct : List (Nat × (List AV → R))} (h : CtOK Try.prog [] Ct) : CtOK Try.prog [] (ctIsOts :: Ct) := CtOK_cons (Row1 fun k _ => isOts_fun k) h

/-- a tree and its leaves go together -/
def fitP (l : Lms) (o : Ots) : Prop := lmsT l.code = some l ∧ otsT o.code = some o ∧ l.shake = o.shake ∧ l.n = o.n
instance (l : Lms) (o : Ots) : Decidable (fitP l o) := by unfold fitP; infer_instance
theorem Fit_fun (l : Lms) (o : Ots) : Fun Try.prog [] 85 [Enc.enc l, Enc.enc o] (.b (decide (fitP l o))) := by
  refine Fun_cc [ctIsLms 95, ctIsOts] mo Try.func85 (by decide) cc85 rs85 Try.ntmps85 (by simp) ?_
  have hct := ctIsLms_ok (ctIsOts_ok CtOK_nil)
  by_cases h1 : lmsT l.code = some l
  · by_cases h2 : otsT o.code = some o
    · by_cases h3 : l.shake = o.shake
      · refine AW_run hct 1000 ?_
        simp (maxSteps := 10000000) (disch := omega) only [go_sem, c85, ctIsLms, ctIsOts, h1, h2, eq_true h3, decide_true, reduceIte, Nat.reduceAdd, Nat.reduceSub, Nat.reduceMul, Nat.reduceDiv, Nat.reduceMod, Nat.reducePow, Nat.reduceLT, Nat.reduceLeDiff, Nat.reduceBEq, Nat.reduceEqDiff, Nat.reduceAnd, Int.reduceLT, Int.reduceLE, Int.reduceEq, Int.reduceAdd, Int.reduceSub, Int.reduceMul, Int.reduceDiv, Int.reduceMod, Int.reducePow, Int.reduceToNat, Int.reduceNatCast, Int.reduceNeg, BitVec.reduceAdd, BitVec.reduceSub, BitVec.reduceMul, BitVec.reduceUDiv, BitVec.reduceUMod, BitVec.reduceDiv, BitVec.reduceMod, BitVec.reduceLT, BitVec.reduceLE, BitVec.reduceEq, BitVec.reduceToNat, BitVec.reduceToInt, BitVec.reduceOfInt, BitVec.reduceSetWidth, BitVec.reduceAnd, BitVec.reduceOr, BitVec.reduceXOr, BitVec.reduceNot, BitVec.reduceHShiftLeft, BitVec.reduceHShiftRight]
        simp [fitP, h1, h2, h3]
      · have hf : decide (fitP l o) = false := decide_eq_false fun ⟨_, _, c, _⟩ => h3 c
        rw [hf]
        refine AW_run hct 1000 ?_
        simp (maxSteps := 10000000) (disch := omega) only [go_sem, c85, ctIsLms, ctIsOts, h1, h2, h3, decide_true, decide_false, reduceIte, Nat.reduceAdd, Nat.reduceSub, Nat.reduceMul, Nat.reduceDiv, Nat.reduceMod, Nat.reducePow, Nat.reduceLT, Nat.reduceLeDiff, Nat.reduceBEq, Nat.reduceEqDiff, Nat.reduceAnd, Int.reduceLT, Int.reduceLE, Int.reduceEq, Int.reduceAdd, Int.reduceSub, Int.reduceMul, Int.reduceDiv, Int.reduceMod, Int.reducePow, Int.reduceToNat, Int.reduceNatCast, Int.reduceNeg, BitVec.reduceAdd, BitVec.reduceSub, BitVec.reduceMul, BitVec.reduceUDiv, BitVec.reduceUMod, BitVec.reduceDiv, BitVec.reduceMod, BitVec.reduceLT, BitVec.reduceLE, BitVec.reduceEq, BitVec.reduceToNat, BitVec.reduceToInt, BitVec.reduceOfInt, BitVec.reduceSetWidth, BitVec.reduceAnd, BitVec.reduceOr, BitVec.reduceXOr, BitVec.reduceNot, BitVec.reduceHShiftLeft, BitVec.reduceHShiftRight]
    · have hf : decide (fitP l o) = false := decide_eq_false fun ⟨_, b, _⟩ => h2 b
      rw [hf]
      refine AW_run hct 1000 ?_
      simp (maxSteps := 10000000) (disch := omega) only [go_sem, c85, ctIsLms, ctIsOts, h1, h2, decide_true, decide_false, reduceIte, Nat.reduceAdd, Nat.reduceSub, Nat.reduceMul, Nat.reduceDiv, Nat.reduceMod, Nat.reducePow, Nat.reduceLT, Nat.reduceLeDiff, Nat.reduceBEq, Nat.reduceEqDiff, Nat.reduceAnd, Int.reduceLT, Int.reduceLE, Int.reduceEq, Int.reduceAdd, Int.reduceSub, Int.reduceMul, Int.reduceDiv, Int.reduceMod, Int.reducePow, Int.reduceToNat, Int.reduceNatCast, Int.reduceNeg, BitVec.reduceAdd, BitVec.reduceSub, BitVec.reduceMul, BitVec.reduceUDiv, BitVec.reduceUMod, BitVec.reduceDiv, BitVec.reduceMod, BitVec.reduceLT, BitVec.reduceLE, BitVec.reduceEq, BitVec.reduceToNat, BitVec.reduceToInt, BitVec.reduceOfInt, BitVec.reduceSetWidth, BitVec.reduceAnd, BitVec.reduceOr, BitVec.reduceXOr, BitVec.reduceNot, BitVec.reduceHShiftLeft, BitVec.reduceHShiftRight]
  · have hf : decide (fitP l o) = false := decide_eq_false fun ⟨a, _⟩ => h1 a
    rw [hf]
    refine AW_run hct 1000 ?_
    simp (maxSteps := 10000000) (disch := omega) only [go_sem, c85, ctIsLms, ctIsOts, h1, decide_true, decide_false, reduceIte, Nat.reduceAdd, Nat.reduceSub, Nat.reduceMul, Nat.reduceDiv, Nat.reduceMod, Nat.reducePow, Nat.reduceLT, Nat.reduceLeDiff, Nat.reduceBEq, Nat.reduceEqDiff, Nat.reduceAnd, Int.reduceLT, Int.reduceLE, Int.reduceEq, Int.reduceAdd, Int.reduceSub, Int.reduceMul, Int.reduceDiv, Int.reduceMod, Int.reducePow, Int.reduceToNat, Int.reduceNatCast, Int.reduceNeg, BitVec.reduceAdd, BitVec.reduceSub, BitVec.reduceMul, BitVec.reduceUDiv, BitVec.reduceUMod, BitVec.reduceDiv, BitVec.reduceMod, BitVec.reduceLT, BitVec.reduceLE, BitVec.reduceEq, BitVec.reduceToNat, BitVec.reduceToInt, BitVec.reduceOfInt, BitVec.reduceSetWidth, BitVec.reduceAnd, BitVec.reduceOr, BitVec.reduceXOr, BitVec.reduceNot, BitVec.reduceHShiftLeft, BitVec.reduceHShiftRight]
theorem rFit_fun (l : Lms) (o : Ots) : Fun Try.prog [] 86 [Enc.enc l, Enc.enc o] (.b (decide (fitP l o))) := by
  refine Fun_cc [ctIsLms 97, ctRMayOts] mo Try.func86 (by decide) cc86 rs86 Try.ntmps86 (by simp) ?_
  have hct := ctRMayLms_ok (ctRMayOts_ok CtOK_nil)
  by_cases h1 : lmsT l.code = some l
  · by_cases h2 : otsT o.code = some o
    · by_cases h3 : l.shake = o.shake
      · refine AW_run hct 1000 ?_
        simp (maxSteps := 10000000) (disch := omega) only [go_sem, c86, ctIsLms, ctRMayOts, h1, h2, eq_true h3, decide_true, reduceIte, Nat.reduceAdd, Nat.reduceSub, Nat.reduceMul, Nat.reduceDiv, Nat.reduceMod, Nat.reducePow, Nat.reduceLT, Nat.reduceLeDiff, Nat.reduceBEq, Nat.reduceEqDiff, Nat.reduceAnd, Int.reduceLT, Int.reduceLE, Int.reduceEq, Int.reduceAdd, Int.reduceSub, Int.reduceMul, Int.reduceDiv, Int.reduceMod, Int.reducePow, Int.reduceToNat, Int.reduceNatCast, Int.reduceNeg, BitVec.reduceAdd, BitVec.reduceSub, BitVec.reduceMul, BitVec.reduceUDiv, BitVec.reduceUMod, BitVec.reduceDiv, BitVec.reduceMod, BitVec.reduceLT, BitVec.reduceLE, BitVec.reduceEq, BitVec.reduceToNat, BitVec.reduceToInt, BitVec.reduceOfInt, BitVec.reduceSetWidth, BitVec.reduceAnd, BitVec.reduceOr, BitVec.reduceXOr, BitVec.reduceNot, BitVec.reduceHShiftLeft, BitVec.reduceHShiftRight]
        simp [fitP, h1, h2, h3]
      · have hf : decide (fitP l o) = false := decide_eq_false fun ⟨_, _, c, _⟩ => h3 c
        rw [hf]
        refine AW_run hct 1000 ?_
        simp (maxSteps := 10000000) (disch := omega) only [go_sem, c86, ctIsLms, ctRMayOts, h1, h2, h3, decide_true, decide_false, reduceIte, Nat.reduceAdd, Nat.reduceSub, Nat.reduceMul, Nat.reduceDiv, Nat.reduceMod, Nat.reducePow, Nat.reduceLT, Nat.reduceLeDiff, Nat.reduceBEq, Nat.reduceEqDiff, Nat.reduceAnd, Int.reduceLT, Int.reduceLE, Int.reduceEq, Int.reduceAdd, Int.reduceSub, Int.reduceMul, Int.reduceDiv, Int.reduceMod, Int.reducePow, Int.reduceToNat, Int.reduceNatCast, Int.reduceNeg, BitVec.reduceAdd, BitVec.reduceSub, BitVec.reduceMul, BitVec.reduceUDiv, BitVec.reduceUMod, BitVec.reduceDiv, BitVec.reduceMod, BitVec.reduceLT, BitVec.reduceLE, BitVec.reduceEq, BitVec.reduceToNat, BitVec.reduceToInt, BitVec.reduceOfInt, BitVec.reduceSetWidth, BitVec.reduceAnd, BitVec.reduceOr, BitVec.reduceXOr, BitVec.reduceNot, BitVec.reduceHShiftLeft, BitVec.reduceHShiftRight]
    · have hf : decide (fitP l o) = false := decide_eq_false fun ⟨_, b, _⟩ => h2 b
      rw [hf]
      refine AW_run hct 1000 ?_
      simp (maxSteps := 10000000) (disch := omega) only [go_sem, c86, ctIsLms, ctRMayOts, h1, h2, decide_true, decide_false, reduceIte, Nat.reduceAdd, Nat.reduceSub, Nat.reduceMul, Nat.reduceDiv, Nat.reduceMod, Nat.reducePow, Nat.reduceLT, Nat.reduceLeDiff, Nat.reduceBEq, Nat.reduceEqDiff, Nat.reduceAnd, Int.reduceLT, Int.reduceLE, Int.reduceEq, Int.reduceAdd, Int.reduceSub, Int.reduceMul, Int.reduceDiv, Int.reduceMod, Int.reducePow, Int.reduceToNat, Int.reduceNatCast, Int.reduceNeg, BitVec.reduceAdd, BitVec.reduceSub, BitVec.reduceMul, BitVec.reduceUDiv, BitVec.reduceUMod, BitVec.reduceDiv, BitVec.reduceMod, BitVec.reduceLT, BitVec.reduceLE, BitVec.reduceEq, BitVec.reduceToNat, BitVec.reduceToInt, BitVec.reduceOfInt, BitVec.reduceSetWidth, BitVec.reduceAnd, BitVec.reduceOr, BitVec.reduceXOr, BitVec.reduceNot, BitVec.reduceHShiftLeft, BitVec.reduceHShiftRight]
  · have hf : decide (fitP l o) = false := decide_eq_false fun ⟨a, _⟩ => h1 a
    rw [hf]
    refine AW_run hct 1000 ?_
    simp (maxSteps := 10000000) (disch := omega) only [go_sem, c86, ctIsLms, ctRMayOts, h1, decide_true, decide_false, reduceIte, Nat.reduceAdd, Nat.reduceSub, Nat.reduceMul, Nat.reduceDiv, Nat.reduceMod, Nat.reducePow, Nat.reduceLT, Nat.reduceLeDiff, Nat.reduceBEq, Nat.reduceEqDiff, Nat.reduceAnd, Int.reduceLT, Int.reduceLE, Int.reduceEq, Int.reduceAdd, Int.reduceSub, Int.reduceMul, Int.reduceDiv, Int.reduceMod, Int.reducePow, Int.reduceToNat, Int.reduceNatCast, Int.reduceNeg, BitVec.reduceAdd, BitVec.reduceSub, BitVec.reduceMul, BitVec.reduceUDiv, BitVec.reduceUMod, BitVec.reduceDiv, BitVec.reduceMod, BitVec.reduceLT, BitVec.reduceLE, BitVec.reduceEq, BitVec.reduceToNat, BitVec.reduceToInt, BitVec.reduceOfInt, BitVec.reduceSetWidth, BitVec.reduceAnd, BitVec.reduceOr, BitVec.reduceXOr, BitVec.reduceNot, BitVec.reduceHShiftLeft, BitVec.reduceHShiftRight]
def ctFit (n : Nat) : Nat × (List AV → R) := (n, A2 fun (l : Lms) (o : Ots) => (True, .b (decide (fitP l o))))
theorem ctFit_ok {Ct : List (Nat × (List AV → R))} (h : CtOK Try.prog [] Ct) : CtOK Try.prog [] (ctFit 85 :: Ct) := CtOK_cons (Row2 fun k o _ => Fit_fun k o) h
theorem ctRFit_ok {Ct : List (Nat × (List AV → R))} (h : CtOK Try.prog [] Ct) : CtOK Try.prog [] (ctFit 86 :: Ct) := CtOK_cons (Row2 fun k o _ => rFit_fun k o) h

/-- the sets of a code, as they come -/
def lmsX (c : BitVec 32) : Lms := (lmsT c).getD lms0
def otsX (c : BitVec 32) : Ots := (otsT c).getD ots0
theorem lmsR_eq (c : BitVec 32) : lmsR c = .tup [Enc.enc (lmsX c), .i (if lmsT c = none then 60 else 0)] := by
  unfold lmsR lmsX
  cases lmsT c <;> rfl
theorem otsR_eq (c : BitVec 32) : otsR c = .tup [Enc.enc (otsX c), .i (if otsT c = none then 60 else 0)] := by
  unfold otsR otsX
  cases otsT c <;> rfl
structure Level where
  a : BitVec 32
  b : BitVec 32
  deriving DecidableEq
instance : Enc Level where
  enc v := .agg [.u32 v.a, .u32 v.b]
  ret v := .agg [.u32 v.a, .u32 v.b]
  ok | .agg [.u32 _, .u32 _] => True | _ => False
  dec | .agg [.u32 a, .u32 b] => ⟨a, b⟩ | _ => ⟨0, 0⟩
  dflt := ⟨0, 0⟩
  d := 2
  sound x h := by
    split at h
    · rfl
    · exact h.elim
  fz H k x h := by obtain ⟨k, rfl⟩ := Nat.exists_eq_add_of_le' h; exact ⟨rfl, rfl, rfl, rfl⟩
  ow x := ⟨rfl, rfl⟩
  cl x := rfl
  rn m x := ⟨rfl, rfl⟩
  ik n x := by constructor <;> simp [idk, idk.idkL]
@[go_sem] theorem enc_lv (v : Level) : Enc.enc v = .agg [.u32 v.a, .u32 v.b] := rfl
@[go_sem] theorem ret_lv (v : Level) : Enc.ret v = .agg [.u32 v.a, .u32 v.b] := rfl
@[go_sem] theorem ok_lv (a b : BitVec 32) : Enc.ok Level (.agg [.u32 a, .u32 b]) = True := rfl
@[go_sem] theorem dec_lv (a b : BitVec 32) : (Enc.dec (.agg [.u32 a, .u32 b]) : Level) = ⟨a, b⟩ := rfl
def vfit (v : Level) : Prop := fitP (lmsX v.a) (otsX v.b)
instance (v : Level) : Decidable (vfit v) := by unfold vfit; infer_instance
theorem lms0_none : lmsT lms0.code = none := by decide +kernel
theorem ots0_none : otsT ots0.code = none := by decide +kernel
theorem vfit_some (v : Level) (h : vfit v) : lmsT v.a ≠ none ∧ otsT v.b ≠ none := by
  obtain ⟨h1, h2, _⟩ := h
  constructor
  · intro e; rw [lmsX, e, Option.getD_none, lms0_none] at h1; simp at h1
  · intro e; rw [otsX, e, Option.getD_none, ots0_none] at h2; simp at h2
theorem sets_fun (v : Level) : Fun Try.prog [] 56 [Enc.enc v] (.tup [Enc.enc (lmsX v.a), Enc.enc (otsX v.b), .b (decide (vfit v))]) := by
  refine Fun_cc [ctLms 84, ctOts, ctFit 85] mo Try.func56 (by decide) cc56 rs56 Try.ntmps56 (by simp) ?_
  have hct := ctLms_ok (ctOts_ok (ctFit_ok CtOK_nil))
  by_cases h1 : lmsT v.a = none
  · have hf : decide (vfit v) = false := decide_eq_false fun h => (vfit_some v h).1 h1
    rw [hf]
    refine AW_run hct 22 ?_
    simp (maxSteps := 10000000) (disch := omega) only [go_sem, c56, ctLms, ctOts, ctFit, lmsR_eq, otsR_eq, h1, reduceIte, Nat.reduceAdd, Nat.reduceSub, Nat.reduceMul, Nat.reduceDiv, Nat.reduceMod, Nat.reducePow, Nat.reduceLT, Nat.reduceLeDiff, Nat.reduceBEq, Nat.reduceEqDiff, Nat.reduceAnd, Int.reduceLT, Int.reduceLE, Int.reduceEq, Int.reduceAdd, Int.reduceSub, Int.reduceMul, Int.reduceDiv, Int.reduceMod, Int.reducePow, Int.reduceToNat, Int.reduceNatCast, Int.reduceNeg, BitVec.reduceAdd, BitVec.reduceSub, BitVec.reduceMul, BitVec.reduceUDiv, BitVec.reduceUMod, BitVec.reduceDiv, BitVec.reduceMod, BitVec.reduceLT, BitVec.reduceLE, BitVec.reduceEq, BitVec.reduceToNat, BitVec.reduceToInt, BitVec.reduceOfInt, BitVec.reduceSetWidth, BitVec.reduceAnd, BitVec.reduceOr, BitVec.reduceXOr, BitVec.reduceNot, BitVec.reduceHShiftLeft, BitVec.reduceHShiftRight]
    refine AW_ct [ctLms 84, ctOts, ctFit 85] (AW_drr hct 1000 [(3, ⟨[.u32 (lmsX v.a).code, .b (lmsX v.a).shake, .i (lmsX v.a).n, .i (lmsX v.a).h], true⟩), (4, ⟨[.u32 (otsX v.b).code, .b (otsX v.b).shake, .i (otsX v.b).n, .i (otsX v.b).w, .i (otsX v.b).p, .i (otsX v.b).ls], true⟩)] rfl (by simp only [go_sem, reduceIte, Nat.reduceAdd, Nat.reduceSub, Nat.reduceMul, Nat.reduceDiv, Nat.reduceMod, Nat.reducePow, Nat.reduceLT, Nat.reduceLeDiff, Nat.reduceBEq, Nat.reduceEqDiff, Nat.reduceAnd, Int.reduceLT, Int.reduceLE, Int.reduceEq, Int.reduceAdd, Int.reduceSub, Int.reduceMul, Int.reduceDiv, Int.reduceMod, Int.reducePow, Int.reduceToNat, Int.reduceNatCast, Int.reduceNeg, BitVec.reduceAdd, BitVec.reduceSub, BitVec.reduceMul, BitVec.reduceUDiv, BitVec.reduceUMod, BitVec.reduceDiv, BitVec.reduceMod, BitVec.reduceLT, BitVec.reduceLE, BitVec.reduceEq, BitVec.reduceToNat, BitVec.reduceToInt, BitVec.reduceOfInt, BitVec.reduceSetWidth, BitVec.reduceAnd, BitVec.reduceOr, BitVec.reduceXOr, BitVec.reduceNot, BitVec.reduceHShiftLeft, BitVec.reduceHShiftRight]) ?_)
    simp (maxSteps := 10000000) (disch := omega) only [go_sem, ctLms, ctOts, ctFit, lmsR_eq, otsR_eq, h1, reduceIte, Nat.reduceAdd, Nat.reduceSub, Nat.reduceMul, Nat.reduceDiv, Nat.reduceMod, Nat.reducePow, Nat.reduceLT, Nat.reduceLeDiff, Nat.reduceBEq, Nat.reduceEqDiff, Nat.reduceAnd, Int.reduceLT, Int.reduceLE, Int.reduceEq, Int.reduceAdd, Int.reduceSub, Int.reduceMul, Int.reduceDiv, Int.reduceMod, Int.reducePow, Int.reduceToNat, Int.reduceNatCast, Int.reduceNeg, BitVec.reduceAdd, BitVec.reduceSub, BitVec.reduceMul, BitVec.reduceUDiv, BitVec.reduceUMod, BitVec.reduceDiv, BitVec.reduceMod, BitVec.reduceLT, BitVec.reduceLE, BitVec.reduceEq, BitVec.reduceToNat, BitVec.reduceToInt, BitVec.reduceOfInt, BitVec.reduceSetWidth, BitVec.reduceAnd, BitVec.reduceOr, BitVec.reduceXOr, BitVec.reduceNot, BitVec.reduceHShiftLeft, BitVec.reduceHShiftRight]
  · by_cases h2 : otsT v.b = none
    · have hf : decide (vfit v) = false := decide_eq_false fun h => (vfit_some v h).2 h2
      rw [hf]
      refine AW_run hct 22 ?_
      simp (maxSteps := 10000000) (disch := omega) only [go_sem, c56, ctLms, ctOts, ctFit, lmsR_eq, otsR_eq, h1, h2, reduceIte, Nat.reduceAdd, Nat.reduceSub, Nat.reduceMul, Nat.reduceDiv, Nat.reduceMod, Nat.reducePow, Nat.reduceLT, Nat.reduceLeDiff, Nat.reduceBEq, Nat.reduceEqDiff, Nat.reduceAnd, Int.reduceLT, Int.reduceLE, Int.reduceEq, Int.reduceAdd, Int.reduceSub, Int.reduceMul, Int.reduceDiv, Int.reduceMod, Int.reducePow, Int.reduceToNat, Int.reduceNatCast, Int.reduceNeg, BitVec.reduceAdd, BitVec.reduceSub, BitVec.reduceMul, BitVec.reduceUDiv, BitVec.reduceUMod, BitVec.reduceDiv, BitVec.reduceMod, BitVec.reduceLT, BitVec.reduceLE, BitVec.reduceEq, BitVec.reduceToNat, BitVec.reduceToInt, BitVec.reduceOfInt, BitVec.reduceSetWidth, BitVec.reduceAnd, BitVec.reduceOr, BitVec.reduceXOr, BitVec.reduceNot, BitVec.reduceHShiftLeft, BitVec.reduceHShiftRight]
      refine AW_ct [ctLms 84, ctOts, ctFit 85] (AW_drr hct 1000 [(3, ⟨[.u32 (lmsX v.a).code, .b (lmsX v.a).shake, .i (lmsX v.a).n, .i (lmsX v.a).h], true⟩), (4, ⟨[.u32 (otsX v.b).code, .b (otsX v.b).shake, .i (otsX v.b).n, .i (otsX v.b).w, .i (otsX v.b).p, .i (otsX v.b).ls], true⟩)] rfl (by simp only [go_sem, reduceIte, Nat.reduceAdd, Nat.reduceSub, Nat.reduceMul, Nat.reduceDiv, Nat.reduceMod, Nat.reducePow, Nat.reduceLT, Nat.reduceLeDiff, Nat.reduceBEq, Nat.reduceEqDiff, Nat.reduceAnd, Int.reduceLT, Int.reduceLE, Int.reduceEq, Int.reduceAdd, Int.reduceSub, Int.reduceMul, Int.reduceDiv, Int.reduceMod, Int.reducePow, Int.reduceToNat, Int.reduceNatCast, Int.reduceNeg, BitVec.reduceAdd, BitVec.reduceSub, BitVec.reduceMul, BitVec.reduceUDiv, BitVec.reduceUMod, BitVec.reduceDiv, BitVec.reduceMod, BitVec.reduceLT, BitVec.reduceLE, BitVec.reduceEq, BitVec.reduceToNat, BitVec.reduceToInt, BitVec.reduceOfInt, BitVec.reduceSetWidth, BitVec.reduceAnd, BitVec.reduceOr, BitVec.reduceXOr, BitVec.reduceNot, BitVec.reduceHShiftLeft, BitVec.reduceHShiftRight]) ?_)
      simp (maxSteps := 10000000) (disch := omega) only [go_sem, ctLms, ctOts, ctFit, lmsR_eq, otsR_eq, h1, h2, reduceIte, Nat.reduceAdd, Nat.reduceSub, Nat.reduceMul, Nat.reduceDiv, Nat.reduceMod, Nat.reducePow, Nat.reduceLT, Nat.reduceLeDiff, Nat.reduceBEq, Nat.reduceEqDiff, Nat.reduceAnd, Int.reduceLT, Int.reduceLE, Int.reduceEq, Int.reduceAdd, Int.reduceSub, Int.reduceMul, Int.reduceDiv, Int.reduceMod, Int.reducePow, Int.reduceToNat, Int.reduceNatCast, Int.reduceNeg, BitVec.reduceAdd, BitVec.reduceSub, BitVec.reduceMul, BitVec.reduceUDiv, BitVec.reduceUMod, BitVec.reduceDiv, BitVec.reduceMod, BitVec.reduceLT, BitVec.reduceLE, BitVec.reduceEq, BitVec.reduceToNat, BitVec.reduceToInt, BitVec.reduceOfInt, BitVec.reduceSetWidth, BitVec.reduceAnd, BitVec.reduceOr, BitVec.reduceXOr, BitVec.reduceNot, BitVec.reduceHShiftLeft, BitVec.reduceHShiftRight]
    · refine AW_run hct 22 ?_
      simp (maxSteps := 10000000) (disch := omega) only [go_sem, c56, ctLms, ctOts, ctFit, lmsR_eq, otsR_eq, h1, h2, reduceIte, Nat.reduceAdd, Nat.reduceSub, Nat.reduceMul, Nat.reduceDiv, Nat.reduceMod, Nat.reducePow, Nat.reduceLT, Nat.reduceLeDiff, Nat.reduceBEq, Nat.reduceEqDiff, Nat.reduceAnd, Int.reduceLT, Int.reduceLE, Int.reduceEq, Int.reduceAdd, Int.reduceSub, Int.reduceMul, Int.reduceDiv, Int.reduceMod, Int.reducePow, Int.reduceToNat, Int.reduceNatCast, Int.reduceNeg, BitVec.reduceAdd, BitVec.reduceSub, BitVec.reduceMul, BitVec.reduceUDiv, BitVec.reduceUMod, BitVec.reduceDiv, BitVec.reduceMod, BitVec.reduceLT, BitVec.reduceLE, BitVec.reduceEq, BitVec.reduceToNat, BitVec.reduceToInt, BitVec.reduceOfInt, BitVec.reduceSetWidth, BitVec.reduceAnd, BitVec.reduceOr, BitVec.reduceXOr, BitVec.reduceNot, BitVec.reduceHShiftLeft, BitVec.reduceHShiftRight]
      refine AW_ct [ctLms 84, ctOts, ctFit 85] (AW_drr hct 1000 [(3, ⟨[.u32 (lmsX v.a).code, .b (lmsX v.a).shake, .i (lmsX v.a).n, .i (lmsX v.a).h], true⟩), (4, ⟨[.u32 (otsX v.b).code, .b (otsX v.b).shake, .i (otsX v.b).n, .i (otsX v.b).w, .i (otsX v.b).p, .i (otsX v.b).ls], true⟩)] rfl (by simp only [go_sem, reduceIte, Nat.reduceAdd, Nat.reduceSub, Nat.reduceMul, Nat.reduceDiv, Nat.reduceMod, Nat.reducePow, Nat.reduceLT, Nat.reduceLeDiff, Nat.reduceBEq, Nat.reduceEqDiff, Nat.reduceAnd, Int.reduceLT, Int.reduceLE, Int.reduceEq, Int.reduceAdd, Int.reduceSub, Int.reduceMul, Int.reduceDiv, Int.reduceMod, Int.reducePow, Int.reduceToNat, Int.reduceNatCast, Int.reduceNeg, BitVec.reduceAdd, BitVec.reduceSub, BitVec.reduceMul, BitVec.reduceUDiv, BitVec.reduceUMod, BitVec.reduceDiv, BitVec.reduceMod, BitVec.reduceLT, BitVec.reduceLE, BitVec.reduceEq, BitVec.reduceToNat, BitVec.reduceToInt, BitVec.reduceOfInt, BitVec.reduceSetWidth, BitVec.reduceAnd, BitVec.reduceOr, BitVec.reduceXOr, BitVec.reduceNot, BitVec.reduceHShiftLeft, BitVec.reduceHShiftRight]) ?_)
      simp (maxSteps := 10000000) (disch := omega) only [go_sem, ctLms, ctOts, ctFit, lmsR_eq, otsR_eq, h1, h2, reduceIte, Nat.reduceAdd, Nat.reduceSub, Nat.reduceMul, Nat.reduceDiv, Nat.reduceMod, Nat.reducePow, Nat.reduceLT, Nat.reduceLeDiff, Nat.reduceBEq, Nat.reduceEqDiff, Nat.reduceAnd, Int.reduceLT, Int.reduceLE, Int.reduceEq, Int.reduceAdd, Int.reduceSub, Int.reduceMul, Int.reduceDiv, Int.reduceMod, Int.reducePow, Int.reduceToNat, Int.reduceNatCast, Int.reduceNeg, BitVec.reduceAdd, BitVec.reduceSub, BitVec.reduceMul, BitVec.reduceUDiv, BitVec.reduceUMod, BitVec.reduceDiv, BitVec.reduceMod, BitVec.reduceLT, BitVec.reduceLE, BitVec.reduceEq, BitVec.reduceToNat, BitVec.reduceToInt, BitVec.reduceOfInt, BitVec.reduceSetWidth, BitVec.reduceAnd, BitVec.reduceOr, BitVec.reduceXOr, BitVec.reduceNot, BitVec.reduceHShiftLeft, BitVec.reduceHShiftRight]
      rfl
theorem rSets_fun (v : Level) : Fun Try.prog [] 26 [Enc.enc v] (.tup [Enc.enc (lmsX v.a), Enc.enc (otsX v.b)]) := by
  refine Fun_cc [ctLms 59, ctROts] mo Try.func26 (by decide) cc26 rs26 Try.ntmps26 (by simp) ?_
  have hct := ctRLms_ok (ctROts_ok CtOK_nil)
  refine AW_run hct 21 ?_
  simp (maxSteps := 10000000) (disch := omega) only [go_sem, c26, ctLms, ctROts, lmsR_eq, otsR_eq, reduceIte, Nat.reduceAdd, Nat.reduceSub, Nat.reduceMul, Nat.reduceDiv, Nat.reduceMod, Nat.reducePow, Nat.reduceLT, Nat.reduceLeDiff, Nat.reduceBEq, Nat.reduceEqDiff, Nat.reduceAnd, Int.reduceLT, Int.reduceLE, Int.reduceEq, Int.reduceAdd, Int.reduceSub, Int.reduceMul, Int.reduceDiv, Int.reduceMod, Int.reducePow, Int.reduceToNat, Int.reduceNatCast, Int.reduceNeg, BitVec.reduceAdd, BitVec.reduceSub, BitVec.reduceMul, BitVec.reduceUDiv, BitVec.reduceUMod, BitVec.reduceDiv, BitVec.reduceMod, BitVec.reduceLT, BitVec.reduceLE, BitVec.reduceEq, BitVec.reduceToNat, BitVec.reduceToInt, BitVec.reduceOfInt, BitVec.reduceSetWidth, BitVec.reduceAnd, BitVec.reduceOr, BitVec.reduceXOr, BitVec.reduceNot, BitVec.reduceHShiftLeft, BitVec.reduceHShiftRight]
  refine AW_ct [ctLms 59, ctROts] (AW_drr hct 1000 [(3, ⟨[.u32 (lmsX v.a).code, .b (lmsX v.a).shake, .i (lmsX v.a).n, .i (lmsX v.a).h], true⟩), (4, ⟨[.u32 (otsX v.b).code, .b (otsX v.b).shake, .i (otsX v.b).n, .i (otsX v.b).w, .i (otsX v.b).p, .i (otsX v.b).ls], true⟩)] rfl (by simp only [go_sem, reduceIte, Nat.reduceAdd, Nat.reduceSub, Nat.reduceMul, Nat.reduceDiv, Nat.reduceMod, Nat.reducePow, Nat.reduceLT, Nat.reduceLeDiff, Nat.reduceBEq, Nat.reduceEqDiff, Nat.reduceAnd, Int.reduceLT, Int.reduceLE, Int.reduceEq, Int.reduceAdd, Int.reduceSub, Int.reduceMul, Int.reduceDiv, Int.reduceMod, Int.reducePow, Int.reduceToNat, Int.reduceNatCast, Int.reduceNeg, BitVec.reduceAdd, BitVec.reduceSub, BitVec.reduceMul, BitVec.reduceUDiv, BitVec.reduceUMod, BitVec.reduceDiv, BitVec.reduceMod, BitVec.reduceLT, BitVec.reduceLE, BitVec.reduceEq, BitVec.reduceToNat, BitVec.reduceToInt, BitVec.reduceOfInt, BitVec.reduceSetWidth, BitVec.reduceAnd, BitVec.reduceOr, BitVec.reduceXOr, BitVec.reduceNot, BitVec.reduceHShiftLeft, BitVec.reduceHShiftRight]) ?_)
  simp (maxSteps := 10000000) (disch := omega) only [go_sem, ctLms, ctROts, lmsR_eq, otsR_eq, reduceIte, Nat.reduceAdd, Nat.reduceSub, Nat.reduceMul, Nat.reduceDiv, Nat.reduceMod, Nat.reducePow, Nat.reduceLT, Nat.reduceLeDiff, Nat.reduceBEq, Nat.reduceEqDiff, Nat.reduceAnd, Int.reduceLT, Int.reduceLE, Int.reduceEq, Int.reduceAdd, Int.reduceSub, Int.reduceMul, Int.reduceDiv, Int.reduceMod, Int.reducePow, Int.reduceToNat, Int.reduceNatCast, Int.reduceNeg, BitVec.reduceAdd, BitVec.reduceSub, BitVec.reduceMul, BitVec.reduceUDiv, BitVec.reduceUMod, BitVec.reduceDiv, BitVec.reduceMod, BitVec.reduceLT, BitVec.reduceLE, BitVec.reduceEq, BitVec.reduceToNat, BitVec.reduceToInt, BitVec.reduceOfInt, BitVec.reduceSetWidth, BitVec.reduceAnd, BitVec.reduceOr, BitVec.reduceXOr, BitVec.reduceNot, BitVec.reduceHShiftLeft, BitVec.reduceHShiftRight]
def ctSets : Nat × (List AV → R) := (56, A1 fun v : Level => (True, .tup [Enc.enc (lmsX v.a), Enc.enc (otsX v.b), .b (decide (vfit v))]))
theorem ctSets_ok {Ct : List (Nat × (List AV → R))} (h : CtOK Try.prog [] Ct) : CtOK Try.prog [] (ctSets :: Ct) := CtOK_cons (Row1 fun k _ => sets_fun k) h
def ctRSets : Nat × (List AV → R) := (26, A1 fun v : Level => (True, .tup [Enc.enc (lmsX v.a), Enc.enc (otsX v.b)]))
theorem ctRSets_ok {Ct : List (Nat × (List AV → R))} (h : CtOK Try.prog [] Ct) : CtOK Try.prog [] (ctRSets :: Ct) := CtOK_cons (Row1 fun k _ => rSets_fun k) h
theorem rFits_fun (v : Level) : Fun Try.prog [] 57 [Enc.enc v] (.b (decide (vfit v))) := by
  refine Fun_cc [ctRSets, ctFit 86] mo Try.func57 (by decide) cc57 rs57 Try.ntmps57 (by simp) ?_
  have hct := ctRSets_ok (ctRFit_ok CtOK_nil)
  refine AW_run hct 1000 ?_
  simp (maxSteps := 10000000) (disch := omega) only [go_sem, c57, ctRSets, ctFit, reduceIte, Nat.reduceAdd, Nat.reduceSub, Nat.reduceMul, Nat.reduceDiv, Nat.reduceMod, Nat.reducePow, Nat.reduceLT, Nat.reduceLeDiff, Nat.reduceBEq, Nat.reduceEqDiff, Nat.reduceAnd, Int.reduceLT, Int.reduceLE, Int.reduceEq, Int.reduceAdd, Int.reduceSub, Int.reduceMul, Int.reduceDiv, Int.reduceMod, Int.reducePow, Int.reduceToNat, Int.reduceNatCast, Int.reduceNeg, BitVec.reduceAdd, BitVec.reduceSub, BitVec.reduceMul, BitVec.reduceUDiv, BitVec.reduceUMod, BitVec.reduceDiv, BitVec.reduceMod, BitVec.reduceLT, BitVec.reduceLE, BitVec.reduceEq, BitVec.reduceToNat, BitVec.reduceToInt, BitVec.reduceOfInt, BitVec.reduceSetWidth, BitVec.reduceAnd, BitVec.reduceOr, BitVec.reduceXOr, BitVec.reduceNot, BitVec.reduceHShiftLeft, BitVec.reduceHShiftRight]
  rfl
def ctRFits : Nat × (List AV → R) := (57, A1 fun v : Level => (True, .b (decide (vfit v))))
theorem ctRFits_ok {Ct : List (Nat × (List AV → R))} (h : CtOK Try.prog [] Ct) : CtOK Try.prog [] (ctRFits :: Ct) := CtOK_cons (Row1 fun k _ => rFits_fun k) h
end Go.Lv
