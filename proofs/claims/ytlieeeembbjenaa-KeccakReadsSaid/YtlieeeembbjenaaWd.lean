/- A part of the proof. -/
import Derived.Test.YtlieeeembbjenaaWc
set_option linter.all false
namespace Go.Lv
open Go Go.Proofs
set_option linter.unusedSimpArgs false
set_option maxRecDepth 100000

def ctSponge : Nat × (List AV → R) := (69, A4 fun (r : Int) (e : BitVec 8) (t : List (BitVec 8)) (n : Int) => (0 < r ∧ r ≤ 200 ∧ t.length ≤ 1000000000 ∧ 0 ≤ n ∧ n ≤ 1048576, Enc.ret (sha3S r.toNat e n.toNat t)))
theorem ctSponge_ok {Ct : List (Nat × (List AV → R))} (h : CtOK Try.prog [] Ct) : CtOK Try.prog [] (ctSponge :: Ct) := CtOK_cons (Row4 fun r e t n h => by
  obtain ⟨h1, h2, h3, h4, h5⟩ := h
  obtain ⟨r, rfl⟩ := Int.eq_ofNat_of_zero_le (show 0 ≤ r by omega)
  obtain ⟨n, rfl⟩ := Int.eq_ofNat_of_zero_le h4
  exact Sponge_fun r e t n (by omega) (by omega) h3 (by omega)) h
theorem RSha256_fun (t : List (BitVec 8)) (h : t.length ≤ 1000000000) : Fun Try.prog [] 37 [Enc.enc t] (Enc.ret (sha3S 136 6 32 t)) := by
  refine Fun_cc [ctSponge] mo Try.func37 (by decide) cc37 rs37 Try.ntmps37 (by simp) ?_
  refine AW_run (ctSponge_ok CtOK_nil) 1000 ?_
  simp (maxSteps := 10000000) (disch := omega) only [go_sem, c37, ctSponge, reduceIte, Nat.reduceAdd, Nat.reduceSub, Nat.reduceMul, Nat.reduceDiv, Nat.reduceMod, Nat.reducePow, Nat.reduceLT, Nat.reduceLeDiff, Nat.reduceBEq, Nat.reduceEqDiff, Nat.reduceAnd, Int.reduceLT, Int.reduceLE, Int.reduceEq, Int.reduceAdd, Int.reduceSub, Int.reduceMul, Int.reduceDiv, Int.reduceMod, Int.reducePow, Int.reduceToNat, Int.reduceNatCast, Int.reduceNeg, BitVec.reduceAdd, BitVec.reduceSub, BitVec.reduceMul, BitVec.reduceUDiv, BitVec.reduceUMod, BitVec.reduceDiv, BitVec.reduceMod, BitVec.reduceLT, BitVec.reduceLE, BitVec.reduceEq, BitVec.reduceToNat, BitVec.reduceToInt, BitVec.reduceOfInt, BitVec.reduceSetWidth, BitVec.reduceAnd, BitVec.reduceOr, BitVec.reduceXOr, BitVec.reduceNot, BitVec.reduceHShiftLeft, BitVec.reduceHShiftRight]
theorem RSha512_fun (t : List (BitVec 8)) (h : t.length ≤ 1000000000) : Fun Try.prog [] 38 [Enc.enc t] (Enc.ret (sha3S 72 6 64 t)) := by
  refine Fun_cc [ctSponge] mo Try.func38 (by decide) cc38 rs38 Try.ntmps38 (by simp) ?_
  refine AW_run (ctSponge_ok CtOK_nil) 1000 ?_
  simp (maxSteps := 10000000) (disch := omega) only [go_sem, c38, ctSponge, reduceIte, Nat.reduceAdd, Nat.reduceSub, Nat.reduceMul, Nat.reduceDiv, Nat.reduceMod, Nat.reducePow, Nat.reduceLT, Nat.reduceLeDiff, Nat.reduceBEq, Nat.reduceEqDiff, Nat.reduceAnd, Int.reduceLT, Int.reduceLE, Int.reduceEq, Int.reduceAdd, Int.reduceSub, Int.reduceMul, Int.reduceDiv, Int.reduceMod, Int.reducePow, Int.reduceToNat, Int.reduceNatCast, Int.reduceNeg, BitVec.reduceAdd, BitVec.reduceSub, BitVec.reduceMul, BitVec.reduceUDiv, BitVec.reduceUMod, BitVec.reduceDiv, BitVec.reduceMod, BitVec.reduceLT, BitVec.reduceLE, BitVec.reduceEq, BitVec.reduceToNat, BitVec.reduceToInt, BitVec.reduceOfInt, BitVec.reduceSetWidth, BitVec.reduceAnd, BitVec.reduceOr, BitVec.reduceXOr, BitVec.reduceNot, BitVec.reduceHShiftLeft, BitVec.reduceHShiftRight]
theorem RShake_fun (b : Int) (n : Nat) (t : List (BitVec 8)) (h : t.length ≤ 1000000000) (hn : n ≤ 1048576) : Fun Try.prog [] 42 [Enc.enc b, Enc.enc (n : Int), Enc.enc t] (Enc.ret (shakeS b n t)) := by
  refine Fun_cc [ctSponge] mo Try.func42 (by decide) cc42 rs42 Try.ntmps42 (by simp) ?_
  by_cases hb : b = 128
  · subst hb
    have e : shakeS 128 n t = sha3S 168 31 n t := rfl
    refine AW_run (ctSponge_ok CtOK_nil) 1000 ?_
    simp (maxSteps := 10000000) (disch := omega) only [go_sem, c42, ctSponge, e, reduceIte, Nat.reduceAdd, Nat.reduceSub, Nat.reduceMul, Nat.reduceDiv, Nat.reduceMod, Nat.reducePow, Nat.reduceLT, Nat.reduceLeDiff, Nat.reduceBEq, Nat.reduceEqDiff, Nat.reduceAnd, Int.reduceLT, Int.reduceLE, Int.reduceEq, Int.reduceAdd, Int.reduceSub, Int.reduceMul, Int.reduceDiv, Int.reduceMod, Int.reducePow, Int.reduceToNat, Int.reduceNatCast, Int.reduceNeg, BitVec.reduceAdd, BitVec.reduceSub, BitVec.reduceMul, BitVec.reduceUDiv, BitVec.reduceUMod, BitVec.reduceDiv, BitVec.reduceMod, BitVec.reduceLT, BitVec.reduceLE, BitVec.reduceEq, BitVec.reduceToNat, BitVec.reduceToInt, BitVec.reduceOfInt, BitVec.reduceSetWidth, BitVec.reduceAnd, BitVec.reduceOr, BitVec.reduceXOr, BitVec.reduceNot, BitVec.reduceHShiftLeft, BitVec.reduceHShiftRight]
  · have e : shakeS b n t = sha3S 136 31 n t := by rw [shakeS, rateS, if_neg hb]
    refine AW_run (ctSponge_ok CtOK_nil) 1000 ?_
    simp (maxSteps := 10000000) (disch := omega) only [go_sem, c42, ctSponge, e, hb, reduceIte, Nat.reduceAdd, Nat.reduceSub, Nat.reduceMul, Nat.reduceDiv, Nat.reduceMod, Nat.reducePow, Nat.reduceLT, Nat.reduceLeDiff, Nat.reduceBEq, Nat.reduceEqDiff, Nat.reduceAnd, Int.reduceLT, Int.reduceLE, Int.reduceEq, Int.reduceAdd, Int.reduceSub, Int.reduceMul, Int.reduceDiv, Int.reduceMod, Int.reducePow, Int.reduceToNat, Int.reduceNatCast, Int.reduceNeg, BitVec.reduceAdd, BitVec.reduceSub, BitVec.reduceMul, BitVec.reduceUDiv, BitVec.reduceUMod, BitVec.reduceDiv, BitVec.reduceMod, BitVec.reduceLT, BitVec.reduceLE, BitVec.reduceEq, BitVec.reduceToNat, BitVec.reduceToInt, BitVec.reduceOfInt, BitVec.reduceSetWidth, BitVec.reduceAnd, BitVec.reduceOr, BitVec.reduceXOr, BitVec.reduceNot, BitVec.reduceHShiftLeft, BitVec.reduceHShiftRight]
def ctRSha256 : Nat × (List AV → R) := (37, A1 fun t : List (BitVec 8) => (t.length ≤ 1000000000, Enc.ret (sha3S 136 6 32 t)))
theorem ctRSha256_ok {Ct : List (Nat × (List AV → R))} (h : CtOK Try.prog [] Ct) : CtOK Try.prog [] (ctRSha256 :: Ct) := CtOK_cons (Row1 fun t h => RSha256_fun t h) h
def ctRSha512 : Nat × (List AV → R) := (38, A1 fun t : List (BitVec 8) => (t.length ≤ 1000000000, Enc.ret (sha3S 72 6 64 t)))
theorem ctRSha512_ok {Ct : List (Nat × (List AV → R))} (h : CtOK Try.prog [] Ct) : CtOK Try.prog [] (ctRSha512 :: Ct) := CtOK_cons (Row1 fun t h => RSha512_fun t h) h
def ctRShake : Nat × (List AV → R) := (42, A3 fun (b n : Int) (t : List (BitVec 8)) => (t.length ≤ 1000000000 ∧ 0 ≤ n ∧ n ≤ 1048576, Enc.ret (shakeS b n.toNat t)))
theorem ctRShake_ok {Ct : List (Nat × (List AV → R))} (h : CtOK Try.prog [] Ct) : CtOK Try.prog [] (ctRShake :: Ct) := CtOK_cons (Row3 fun b n t h => by
  obtain ⟨h1, h2, h3⟩ := h
  obtain ⟨n, rfl⟩ := Int.eq_ofNat_of_zero_le h2
  exact RShake_fun b n t h1 (by omega)) h

set_option maxHeartbeats 2000000 in
theorem Ask_fun (b n : Int) (t : List (BitVec 8)) (h : t.length ≤ 1000000000) : Fun Try.prog [] 33 [Enc.enc b, Enc.enc n, Enc.enc t] (ShakeR b n t) := by
  refine Fun_cc [ctRShake] mo Try.func33 (by decide) cc33 rs33 Try.ntmps33 (by simp) ?_
  have hct := ctRShake_ok CtOK_nil
  unfold ShakeR
  by_cases h1 : n < 0
  · by_cases hb : b = 128 ∨ b = 256
    · rw [if_pos hb, if_pos h1]
      refine AW_run hct 1000 ?_
      rcases hb with rfl | rfl <;> simp (maxSteps := 10000000) (disch := omega) only [go_sem, c33, ctRShake, h1, reduceIte, Nat.reduceAdd, Nat.reduceSub, Nat.reduceMul, Nat.reduceDiv, Nat.reduceMod, Nat.reducePow, Nat.reduceLT, Nat.reduceLeDiff, Nat.reduceBEq, Nat.reduceEqDiff, Nat.reduceAnd, Int.reduceLT, Int.reduceLE, Int.reduceEq, Int.reduceAdd, Int.reduceSub, Int.reduceMul, Int.reduceDiv, Int.reduceMod, Int.reducePow, Int.reduceToNat, Int.reduceNatCast, Int.reduceNeg, BitVec.reduceAdd, BitVec.reduceSub, BitVec.reduceMul, BitVec.reduceUDiv, BitVec.reduceUMod, BitVec.reduceDiv, BitVec.reduceMod, BitVec.reduceLT, BitVec.reduceLE, BitVec.reduceEq, BitVec.reduceToNat, BitVec.reduceToInt, BitVec.reduceOfInt, BitVec.reduceSetWidth, BitVec.reduceAnd, BitVec.reduceOr, BitVec.reduceXOr, BitVec.reduceNot, BitVec.reduceHShiftLeft, BitVec.reduceHShiftRight]
    · rw [if_neg hb]
      have h3 : ¬ b = 128 := fun h => hb (.inl h)
      have h4 : ¬ b = 256 := fun h => hb (.inr h)
      refine AW_run hct 1000 ?_
      simp (maxSteps := 10000000) (disch := omega) only [go_sem, c33, ctRShake, h1, h3, h4, reduceIte, Nat.reduceAdd, Nat.reduceSub, Nat.reduceMul, Nat.reduceDiv, Nat.reduceMod, Nat.reducePow, Nat.reduceLT, Nat.reduceLeDiff, Nat.reduceBEq, Nat.reduceEqDiff, Nat.reduceAnd, Int.reduceLT, Int.reduceLE, Int.reduceEq, Int.reduceAdd, Int.reduceSub, Int.reduceMul, Int.reduceDiv, Int.reduceMod, Int.reducePow, Int.reduceToNat, Int.reduceNatCast, Int.reduceNeg, BitVec.reduceAdd, BitVec.reduceSub, BitVec.reduceMul, BitVec.reduceUDiv, BitVec.reduceUMod, BitVec.reduceDiv, BitVec.reduceMod, BitVec.reduceLT, BitVec.reduceLE, BitVec.reduceEq, BitVec.reduceToNat, BitVec.reduceToInt, BitVec.reduceOfInt, BitVec.reduceSetWidth, BitVec.reduceAnd, BitVec.reduceOr, BitVec.reduceXOr, BitVec.reduceNot, BitVec.reduceHShiftLeft, BitVec.reduceHShiftRight]
  · by_cases hb : b = 128 ∨ b = 256
    · rw [if_pos hb, if_neg h1]
      by_cases h2 : 1048576 < n
      · rw [if_pos h2]
        refine AW_run hct 1000 ?_
        rcases hb with rfl | rfl <;> simp (maxSteps := 10000000) (disch := omega) only [go_sem, c33, ctRShake, h1, h2, reduceIte, Nat.reduceAdd, Nat.reduceSub, Nat.reduceMul, Nat.reduceDiv, Nat.reduceMod, Nat.reducePow, Nat.reduceLT, Nat.reduceLeDiff, Nat.reduceBEq, Nat.reduceEqDiff, Nat.reduceAnd, Int.reduceLT, Int.reduceLE, Int.reduceEq, Int.reduceAdd, Int.reduceSub, Int.reduceMul, Int.reduceDiv, Int.reduceMod, Int.reducePow, Int.reduceToNat, Int.reduceNatCast, Int.reduceNeg, BitVec.reduceAdd, BitVec.reduceSub, BitVec.reduceMul, BitVec.reduceUDiv, BitVec.reduceUMod, BitVec.reduceDiv, BitVec.reduceMod, BitVec.reduceLT, BitVec.reduceLE, BitVec.reduceEq, BitVec.reduceToNat, BitVec.reduceToInt, BitVec.reduceOfInt, BitVec.reduceSetWidth, BitVec.reduceAnd, BitVec.reduceOr, BitVec.reduceXOr, BitVec.reduceNot, BitVec.reduceHShiftLeft, BitVec.reduceHShiftRight]
      · rw [if_neg h2]
        refine AW_run hct 1000 ?_
        rcases hb with rfl | rfl <;> simp (maxSteps := 10000000) (disch := omega) only [go_sem, c33, ctRShake, h1, h2, reduceIte, Nat.reduceAdd, Nat.reduceSub, Nat.reduceMul, Nat.reduceDiv, Nat.reduceMod, Nat.reducePow, Nat.reduceLT, Nat.reduceLeDiff, Nat.reduceBEq, Nat.reduceEqDiff, Nat.reduceAnd, Int.reduceLT, Int.reduceLE, Int.reduceEq, Int.reduceAdd, Int.reduceSub, Int.reduceMul, Int.reduceDiv, Int.reduceMod, Int.reducePow, Int.reduceToNat, Int.reduceNatCast, Int.reduceNeg, BitVec.reduceAdd, BitVec.reduceSub, BitVec.reduceMul, BitVec.reduceUDiv, BitVec.reduceUMod, BitVec.reduceDiv, BitVec.reduceMod, BitVec.reduceLT, BitVec.reduceLE, BitVec.reduceEq, BitVec.reduceToNat, BitVec.reduceToInt, BitVec.reduceOfInt, BitVec.reduceSetWidth, BitVec.reduceAnd, BitVec.reduceOr, BitVec.reduceXOr, BitVec.reduceNot, BitVec.reduceHShiftLeft, BitVec.reduceHShiftRight]
    · rw [if_neg hb]
      have h3 : ¬ b = 128 := fun h => hb (.inl h)
      have h4 : ¬ b = 256 := fun h => hb (.inr h)
      refine AW_run hct 1000 ?_
      simp (maxSteps := 10000000) (disch := omega) only [go_sem, c33, ctRShake, h1, h3, h4, reduceIte, Nat.reduceAdd, Nat.reduceSub, Nat.reduceMul, Nat.reduceDiv, Nat.reduceMod, Nat.reducePow, Nat.reduceLT, Nat.reduceLeDiff, Nat.reduceBEq, Nat.reduceEqDiff, Nat.reduceAnd, Int.reduceLT, Int.reduceLE, Int.reduceEq, Int.reduceAdd, Int.reduceSub, Int.reduceMul, Int.reduceDiv, Int.reduceMod, Int.reducePow, Int.reduceToNat, Int.reduceNatCast, Int.reduceNeg, BitVec.reduceAdd, BitVec.reduceSub, BitVec.reduceMul, BitVec.reduceUDiv, BitVec.reduceUMod, BitVec.reduceDiv, BitVec.reduceMod, BitVec.reduceLT, BitVec.reduceLE, BitVec.reduceEq, BitVec.reduceToNat, BitVec.reduceToInt, BitVec.reduceOfInt, BitVec.reduceSetWidth, BitVec.reduceAnd, BitVec.reduceOr, BitVec.reduceXOr, BitVec.reduceNot, BitVec.reduceHShiftLeft, BitVec.reduceHShiftRight]
def ctAsk : Nat × (List AV → R) := (33, A3 fun (b n : Int) (t : List (BitVec 8)) => (t.length ≤ 1000000000, ShakeR b n t))
theorem ctAsk_ok {Ct : List (Nat × (List AV → R))} (h : CtOK Try.prog [] Ct) : CtOK Try.prog [] (ctAsk :: Ct) := CtOK_cons (Row3 fun b n t h => Ask_fun b n t h) h

set_option maxHeartbeats 4000000 in
theorem KShakes_fun (b n : Int) (ps : List (List (BitVec 8))) (_ : i64ok b) (_ : i64ok n) (hp1 : ∀ x ∈ ps, x.length ≤ 140737488351232) (hp2 : ps.length ≤ 140737488351232) : Fun Try.prog [] 7 [Enc.enc b, Enc.enc n, Enc.enc ps] (.b true) := by
  have hp : bbOK ps := ⟨hp2, hp1⟩
  refine Fun_cc [ctKlive, ctMuch, ctShake, ctEqual, ctJoin, ctAsk] mo Try.func7 (by decide) cc7 rs7 Try.ntmps7 (by simp) ?_
  have hct := ctKlive_ok (ctMuch_ok (ctShake_ok (ctEqual_ok (ctJoin_ok (ctAsk_ok CtOK_nil)))))
  by_cases hm : muchS ps = true
  · refine AW_run hct 1000 ?_
    simp (maxSteps := 10000000) (disch := omega) only [go_sem, c7, ctKlive, ctMuch, ctShake, ctEqual, ctJoin, ctAsk, hm, hp, reduceIte, Nat.reduceAdd, Nat.reduceSub, Nat.reduceMul, Nat.reduceDiv, Nat.reduceMod, Nat.reducePow, Nat.reduceLT, Nat.reduceLeDiff, Nat.reduceBEq, Nat.reduceEqDiff, Nat.reduceAnd, Int.reduceLT, Int.reduceLE, Int.reduceEq, Int.reduceAdd, Int.reduceSub, Int.reduceMul, Int.reduceDiv, Int.reduceMod, Int.reducePow, Int.reduceToNat, Int.reduceNatCast, Int.reduceNeg, BitVec.reduceAdd, BitVec.reduceSub, BitVec.reduceMul, BitVec.reduceUDiv, BitVec.reduceUMod, BitVec.reduceDiv, BitVec.reduceMod, BitVec.reduceLT, BitVec.reduceLE, BitVec.reduceEq, BitVec.reduceToNat, BitVec.reduceToInt, BitVec.reduceOfInt, BitVec.reduceSetWidth, BitVec.reduceAnd, BitVec.reduceOr, BitVec.reduceXOr, BitVec.reduceNot, BitVec.reduceHShiftLeft, BitVec.reduceHShiftRight]
  replace hm : muchS ps = false := by simpa using hm
  have hmu : ¬ (2000 < ps.flatten.length ∨ 200 < ps.length) := of_decide_eq_false hm
  have hfl : ps.flatten.length ≤ 2000 := by omega
  have hpl : ps.length ≤ 200 := by omega
  by_cases h1 : 3000 < n ∧ n ≤ 1048576
  · obtain ⟨h1, h2⟩ := h1
    refine AW_run hct 1000 ?_
    simp (maxSteps := 10000000) (disch := omega) only [go_sem, c7, ctKlive, ctMuch, ctShake, ctEqual, ctJoin, ctAsk, hm, hp, h1, h2, reduceIte, Nat.reduceAdd, Nat.reduceSub, Nat.reduceMul, Nat.reduceDiv, Nat.reduceMod, Nat.reducePow, Nat.reduceLT, Nat.reduceLeDiff, Nat.reduceBEq, Nat.reduceEqDiff, Nat.reduceAnd, Int.reduceLT, Int.reduceLE, Int.reduceEq, Int.reduceAdd, Int.reduceSub, Int.reduceMul, Int.reduceDiv, Int.reduceMod, Int.reducePow, Int.reduceToNat, Int.reduceNatCast, Int.reduceNeg, BitVec.reduceAdd, BitVec.reduceSub, BitVec.reduceMul, BitVec.reduceUDiv, BitVec.reduceUMod, BitVec.reduceDiv, BitVec.reduceMod, BitVec.reduceLT, BitVec.reduceLE, BitVec.reduceEq, BitVec.reduceToNat, BitVec.reduceToInt, BitVec.reduceOfInt, BitVec.reduceSetWidth, BitVec.reduceAnd, BitVec.reduceOr, BitVec.reduceXOr, BitVec.reduceNot, BitVec.reduceHShiftLeft, BitVec.reduceHShiftRight]
  have hres : ∃ (l : List (BitVec 8)) (c : Int), ShakeR b n ps.flatten = .tup [.ros true l.length (l.map AV.u8), .i c] := by
    unfold ShakeR
    split
    · split
      · exact ⟨[], 1, rfl⟩
      · split
        · exact ⟨[], 3, rfl⟩
        · exact ⟨_, 0, rfl⟩
    · exact ⟨[], 1, rfl⟩
  obtain ⟨l, c, hres⟩ := hres
  by_cases h2 : 3000 < n
  · have h3 : ¬ n ≤ 1048576 := fun h => h1 ⟨h2, h⟩
    refine AW_run hct 1000 ?_
    simp (maxSteps := 10000000) (disch := omega) only [go_sem, c7, ctKlive, ctMuch, ctShake, ctEqual, ctJoin, ctAsk, hm, hp, h2, h3, hres, reduceIte, Nat.reduceAdd, Nat.reduceSub, Nat.reduceMul, Nat.reduceDiv, Nat.reduceMod, Nat.reducePow, Nat.reduceLT, Nat.reduceLeDiff, Nat.reduceBEq, Nat.reduceEqDiff, Nat.reduceAnd, Int.reduceLT, Int.reduceLE, Int.reduceEq, Int.reduceAdd, Int.reduceSub, Int.reduceMul, Int.reduceDiv, Int.reduceMod, Int.reducePow, Int.reduceToNat, Int.reduceNatCast, Int.reduceNeg, BitVec.reduceAdd, BitVec.reduceSub, BitVec.reduceMul, BitVec.reduceUDiv, BitVec.reduceUMod, BitVec.reduceDiv, BitVec.reduceMod, BitVec.reduceLT, BitVec.reduceLE, BitVec.reduceEq, BitVec.reduceToNat, BitVec.reduceToInt, BitVec.reduceOfInt, BitVec.reduceSetWidth, BitVec.reduceAnd, BitVec.reduceOr, BitVec.reduceXOr, BitVec.reduceNot, BitVec.reduceHShiftLeft, BitVec.reduceHShiftRight]
  · refine AW_run hct 1000 ?_
    simp (maxSteps := 10000000) (disch := omega) only [go_sem, c7, ctKlive, ctMuch, ctShake, ctEqual, ctJoin, ctAsk, hm, hp, h2, hres, reduceIte, Nat.reduceAdd, Nat.reduceSub, Nat.reduceMul, Nat.reduceDiv, Nat.reduceMod, Nat.reducePow, Nat.reduceLT, Nat.reduceLeDiff, Nat.reduceBEq, Nat.reduceEqDiff, Nat.reduceAnd, Int.reduceLT, Int.reduceLE, Int.reduceEq, Int.reduceAdd, Int.reduceSub, Int.reduceMul, Int.reduceDiv, Int.reduceMod, Int.reducePow, Int.reduceToNat, Int.reduceNatCast, Int.reduceNeg, BitVec.reduceAdd, BitVec.reduceSub, BitVec.reduceMul, BitVec.reduceUDiv, BitVec.reduceUMod, BitVec.reduceDiv, BitVec.reduceMod, BitVec.reduceLT, BitVec.reduceLE, BitVec.reduceEq, BitVec.reduceToNat, BitVec.reduceToInt, BitVec.reduceOfInt, BitVec.reduceSetWidth, BitVec.reduceAnd, BitVec.reduceOr, BitVec.reduceXOr, BitVec.reduceNot, BitVec.reduceHShiftLeft, BitVec.reduceHShiftRight]

set_option maxHeartbeats 4000000 in
theorem KSums_fun (ps : List (List (BitVec 8))) (hp1 : ∀ x ∈ ps, x.length ≤ 140737488351232) (hp2 : ps.length ≤ 140737488351232) : Fun Try.prog [] 10 [Enc.enc ps] (.b true) := by
  have hp : bbOK ps := ⟨hp2, hp1⟩
  refine Fun_cc [ctKlive, ctMuch, ctEqual, ctJoin, ctSha256, ctSha512, ctRSha256, ctRSha512] mo Try.func10 (by decide) cc10 rs10 Try.ntmps10 (by simp) ?_
  have hct := ctKlive_ok (ctMuch_ok (ctEqual_ok (ctJoin_ok (ctSha256_ok (ctSha512_ok (ctRSha256_ok (ctRSha512_ok CtOK_nil)))))))
  by_cases hm : muchS ps = true
  · refine AW_run hct 1000 ?_
    simp (maxSteps := 10000000) (disch := omega) only [go_sem, c10, ctKlive, ctMuch, ctEqual, ctJoin, ctSha256, ctSha512, ctRSha256, ctRSha512, hm, hp, reduceIte, Nat.reduceAdd, Nat.reduceSub, Nat.reduceMul, Nat.reduceDiv, Nat.reduceMod, Nat.reducePow, Nat.reduceLT, Nat.reduceLeDiff, Nat.reduceBEq, Nat.reduceEqDiff, Nat.reduceAnd, Int.reduceLT, Int.reduceLE, Int.reduceEq, Int.reduceAdd, Int.reduceSub, Int.reduceMul, Int.reduceDiv, Int.reduceMod, Int.reducePow, Int.reduceToNat, Int.reduceNatCast, Int.reduceNeg, BitVec.reduceAdd, BitVec.reduceSub, BitVec.reduceMul, BitVec.reduceUDiv, BitVec.reduceUMod, BitVec.reduceDiv, BitVec.reduceMod, BitVec.reduceLT, BitVec.reduceLE, BitVec.reduceEq, BitVec.reduceToNat, BitVec.reduceToInt, BitVec.reduceOfInt, BitVec.reduceSetWidth, BitVec.reduceAnd, BitVec.reduceOr, BitVec.reduceXOr, BitVec.reduceNot, BitVec.reduceHShiftLeft, BitVec.reduceHShiftRight]
  replace hm : muchS ps = false := by simpa using hm
  have hmu : ¬ (2000 < ps.flatten.length ∨ 200 < ps.length) := of_decide_eq_false hm
  have hfl : ps.flatten.length ≤ 2000 := by omega
  have hpl : ps.length ≤ 200 := by omega
  have l1 : (sha3S 136 6 32 ps.flatten).length = 32 := gO_len _ _ _
  have l2 : (sha3S 72 6 64 ps.flatten).length = 64 := gO_len _ _ _
  have t1 : (sha3S 136 6 32 ps.flatten).take 32 = sha3S 136 6 32 ps.flatten := List.take_of_length_le (by omega)
  have t2 : (sha3S 72 6 64 ps.flatten).take 64 = sha3S 72 6 64 ps.flatten := List.take_of_length_le (by omega)
  refine AW_run hct 1000 ?_
  simp (maxSteps := 10000000) (disch := omega) only [go_sem, c10, ctKlive, ctMuch, ctEqual, ctJoin, ctSha256, ctSha512, ctRSha256, ctRSha512, hm, hp, l1, l2, t1, t2, List.drop_succ_cons, List.drop_zero, List.drop_nil, List.append_nil, reduceIte, Nat.reduceAdd, Nat.reduceSub, Nat.reduceMul, Nat.reduceDiv, Nat.reduceMod, Nat.reducePow, Nat.reduceLT, Nat.reduceLeDiff, Nat.reduceBEq, Nat.reduceEqDiff, Nat.reduceAnd, Int.reduceLT, Int.reduceLE, Int.reduceEq, Int.reduceAdd, Int.reduceSub, Int.reduceMul, Int.reduceDiv, Int.reduceMod, Int.reducePow, Int.reduceToNat, Int.reduceNatCast, Int.reduceNeg, BitVec.reduceAdd, BitVec.reduceSub, BitVec.reduceMul, BitVec.reduceUDiv, BitVec.reduceUMod, BitVec.reduceDiv, BitVec.reduceMod, BitVec.reduceLT, BitVec.reduceLE, BitVec.reduceEq, BitVec.reduceToNat, BitVec.reduceToInt, BitVec.reduceOfInt, BitVec.reduceSetWidth, BitVec.reduceAnd, BitVec.reduceOr, BitVec.reduceXOr, BitVec.reduceNot, BitVec.reduceHShiftLeft, BitVec.reduceHShiftRight]

end Go.Lv
