/- A part of the proof. -/
import Derived.Test.YtlieeeembbjenaaUb
import Derived.Test.YtlieeeembbjenaaFD
set_option linter.all false
namespace Go.Lv
open Go Go.Proofs
set_option linter.unusedSimpArgs false
set_option maxRecDepth 100000

/-! ## The document's round -/
theorem turn_fun (x : BitVec 64) (k : Int) (h : 0 ≤ k ∧ k < 64) : Fun Try.prog [] 89 [Enc.enc x, Enc.enc k] (.u64 (rl x k.toNat)) := by
  obtain ⟨k, rfl⟩ := Int.eq_ofNat_of_zero_le h.1
  have hk : k < 64 := by omega
  refine Fun_cc [] mo Try.func89 (by decide) cc89 rs89 Try.ntmps89 (by simp) ?_
  refine AW_run CtOK_nil 1000 ?_
  have e2 : (BitVec.ofInt 64 (k : Int)).toNat = k := by rw [BitVec.toNat_ofInt]; omega
  have e3 : (BitVec.ofInt 64 (64 - (k : Int))).toNat = 64 - k := by rw [BitVec.toNat_ofInt]; omega
  by_cases h0 : k = 0
  · subst h0
    have e : x >>> 64 = 0 := by
      apply BitVec.eq_of_toNat_eq
      rw [BitVec.toNat_ushiftRight, Nat.shiftRight_eq_div_pow]
      exact Nat.div_eq_of_lt x.isLt
    simp (maxSteps := 10000000) (disch := omega) only [go_sem, c89, reduceIte, Nat.reduceAdd, Nat.reduceSub, Nat.reduceMul, Nat.reduceDiv, Nat.reduceMod, Nat.reducePow, Nat.reduceLT, Nat.reduceLeDiff, Nat.reduceBEq, Nat.reduceEqDiff, Nat.reduceAnd, Int.reduceLT, Int.reduceLE, Int.reduceEq, Int.reduceAdd, Int.reduceSub, Int.reduceMul, Int.reduceDiv, Int.reduceMod, Int.reducePow, Int.reduceToNat, Int.reduceNatCast, Int.reduceNeg, BitVec.reduceAdd, BitVec.reduceSub, BitVec.reduceMul, BitVec.reduceUDiv, BitVec.reduceUMod, BitVec.reduceDiv, BitVec.reduceMod, BitVec.reduceLT, BitVec.reduceLE, BitVec.reduceEq, BitVec.reduceToNat, BitVec.reduceToInt, BitVec.reduceOfInt, BitVec.reduceSetWidth, BitVec.reduceAnd, BitVec.reduceOr, BitVec.reduceXOr, BitVec.reduceNot, BitVec.reduceHShiftLeft, BitVec.reduceHShiftRight]
    simp [rl, e]
  · have h1 : ¬ ((k : Int) = 0) := by omega
    simp (maxSteps := 10000000) (disch := omega) only [go_sem, c89, h1, e2, e3, reduceIte, Nat.reduceAdd, Nat.reduceSub, Nat.reduceMul, Nat.reduceDiv, Nat.reduceMod, Nat.reducePow, Nat.reduceLT, Nat.reduceLeDiff, Nat.reduceBEq, Nat.reduceEqDiff, Nat.reduceAnd, Int.reduceLT, Int.reduceLE, Int.reduceEq, Int.reduceAdd, Int.reduceSub, Int.reduceMul, Int.reduceDiv, Int.reduceMod, Int.reducePow, Int.reduceToNat, Int.reduceNatCast, Int.reduceNeg, BitVec.reduceAdd, BitVec.reduceSub, BitVec.reduceMul, BitVec.reduceUDiv, BitVec.reduceUMod, BitVec.reduceDiv, BitVec.reduceMod, BitVec.reduceLT, BitVec.reduceLE, BitVec.reduceEq, BitVec.reduceToNat, BitVec.reduceToInt, BitVec.reduceOfInt, BitVec.reduceSetWidth, BitVec.reduceAnd, BitVec.reduceOr, BitVec.reduceXOr, BitVec.reduceNot, BitVec.reduceHShiftLeft, BitVec.reduceHShiftRight]
    simp only [e2, e3, rl, Int.toNat_natCast]
def ctTurn : Nat × (List AV → R) := (89, A2 fun (x : BitVec 64) (k : Int) => (0 ≤ k ∧ k < 64, .u64 (rl x k.toNat)))
theorem ctTurn_ok {Ct : List (Nat × (List AV → R))} (h : CtOK Try.prog [] Ct) : CtOK Try.prog [] (ctTurn :: Ct) := CtOK_cons (Row2 fun x k h => turn_fun x k h) h

/-- the columns' sums, one lane after the other -/
def sF (A : La) : Nat → La
  | 0 => List.replicate 5 0
  | i + 1 => (sF A i).set (i % 5) ((sF A i).getD (i % 5) 0 ^^^ A.getD i 0)
theorem sF_len (A : La) : ∀ i, (sF A i).length = 5
  | 0 => rfl
  | i + 1 => by simp [sF, sF_len A i]
theorem sF_all (A : La) : sF A 25 = cL A := by
  simp only [sF, cL, colC, List.replicate, List.range_succ, List.range_zero, List.nil_append, List.cons_append, List.map_cons, List.map_nil]
  simp
theorem sF0 (A : La) : (sF A 0).map AV.u64 = [.u64 0, .u64 0, .u64 0, .u64 0, .u64 0] := rfl

def tA' (A : La) (k : Nat) : BitVec 64 := A.getD k 0 ^^^ ((cL A).getD ((k + 4) % 5) 0 ^^^ rl ((cL A).getD ((k + 1) % 5) 0) 1)
def thL (A : La) : La := (List.range 25).map (tA' A)
theorem thL_len (A : La) : (thL A).length = 25 := by simp [thL]
/-- the lanes' way -/
def wx (t : Nat) : Nat := [1, 0, 2, 1, 2, 3, 3, 0, 1, 3, 1, 4, 4, 0, 3, 4, 3, 2, 2, 0, 4, 2, 4, 1, 1].getD t 0
def wy (t : Nat) : Nat := [0, 2, 1, 2, 3, 3, 0, 1, 3, 1, 4, 4, 0, 3, 4, 3, 2, 2, 0, 4, 2, 4, 1, 1, 0].getD t 0
theorem way_ok : ∀ t, t < 24 → wx (t + 1) = wy t ∧ wy (t + 1) = (2 * wx t + 3 * wy t) % 5 ∧ wx t < 5 ∧ wy t < 5 := by decide
def wS (t : Nat) : Nat := 5 * wy t + wx t
def wD (t : Nat) : Nat := 5 * ((2 * wx t + 3 * wy t) % 5) + wy t
theorem way_ok2 : ∀ t, t < 24 → wD t < 25 ∧ wS t < 25 ∧ inv (wD t) = wS t ∧ (offs.getD (wS t) 0).toNat = (t + 1) * (t + 2) / 2 % 64 := by decide
theorem rl_zero (x : BitVec 64) : rl x 0 = x := by
  have e : x >>> 64 = 0 := by
    apply BitVec.eq_of_toNat_eq
    rw [BitVec.toNat_ushiftRight, Nat.shiftRight_eq_div_pow]
    exact Nat.div_eq_of_lt x.isLt
  simp [rl, e]
def bR (A : La) : Nat → La
  | 0 => (List.replicate 25 0).set 0 (rl (A.getD 0 0) 0)
  | t + 1 => (bR A t).set (wD t) (rl (A.getD (wS t) 0) ((t + 1) * (t + 2) / 2 % 64))
theorem bR_len (A : La) : ∀ i, (bR A i).length = 25
  | 0 => rfl
  | i + 1 => by simp [bR, bR_len A i]
theorem bR0 (A : La) : (bR A 0).map AV.u64 = z25.set 0 (.u64 (A.getD 0 0)) := by rw [bR, rl_zero]; rfl
def tin (k : Nat) : Nat := [0, 24, 18, 6, 12, 7, 23, 2, 9, 22, 1, 3, 17, 16, 20, 13, 8, 4, 5, 15, 19, 10, 21, 14, 11].getD k 0
theorem tin_ok : ∀ t, t < 24 → tin (wD t) = t + 1 ∧ ∀ k, k < 25 → tin k = t + 1 → k = wD t := by decide
theorem bR_fill (A : La) : ∀ t, t ≤ 24 → bR A t = (List.range 25).map fun k => if tin k ≤ t then rl (A.getD (inv k) 0) (offs.getD (inv k) 0).toNat else 0
  | 0, _ => rfl
  | t + 1, h => by
    rw [bR, bR_fill A t (by omega)]
    obtain ⟨v1, v2, v3, v4⟩ := way_ok2 t (by omega)
    obtain ⟨d1, d2⟩ := tin_ok t (by omega)
    apply List.ext_getElem
    · simp
    · intro k h1 h2
      have hk : k < 25 := by simpa using h2
      rw [List.getElem_set]
      by_cases e : wD t = k
      · subst e; simp [d1, v3, ← v4]
      · rw [if_neg e]
        have hne : tin k ≠ t + 1 := fun h => e (d2 k hk h).symm
        have : (tin k ≤ t + 1) = (tin k ≤ t) := by apply propext; omega
        simp [this]
theorem bR_all (A : La) : bR A 24 = (List.range 25).map fun k => rl (A.getD (inv k) 0) (offs.getD (inv k) 0).toNat := by
  rw [bR_fill A 24 (by omega)]
  apply List.map_congr_left
  intro k hk
  have h : ∀ k, k < 25 → tin k ≤ 24 := by decide
  rw [if_pos (h k (by simpa using hk))]
theorem bR_bL (A : La) : bR (thL A) 24 = bL A offs := by
  rw [bR_all]
  apply List.map_congr_left
  intro k hk
  have hi : ∀ k, k < 25 → inv k < 25 := by decide
  have hk' := hi k (by simpa using hk)
  rw [tB, thL, mapr_get hk', tA', dL, mapr_get (show inv k % 5 < 5 by omega), thD, show (inv k % 5 + 4) % 5 = (inv k + 4) % 5 by omega, show (inv k % 5 + 1) % 5 = (inv k + 1) % 5 by omega]

def σr1 (A : La) (c : BitVec 64) (i : Nat) : St :=
  ⟨[(1, .u64 c), (2, .ptr 0 0), (4, .ptr 1 0), (5, .ptr 2 0), (16, .i i)], [(0, ⟨A.map .u64, true⟩), (1, ⟨z25, true⟩), (2, ⟨(sF A i).map .u64, true⟩)], 3⟩
def σr2 (A : La) (c : BitVec 64) (i : Nat) : St :=
  ⟨[(1, .u64 c), (2, .ptr 0 0), (4, .ptr 1 0), (5, .ptr 2 0), (29, .i i)], [(0, ⟨(fillL 25 (tA' A) (fun k => A.getD k 0) i).map .u64, true⟩), (1, ⟨z25, true⟩), (2, ⟨(cL A).map .u64, true⟩)], 3⟩
def σr3 (A : La) (c : BitVec 64) (t : Nat) : St :=
  ⟨[(1, .u64 c), (2, .ptr 0 0), (4, .ptr 1 0), (8, .ptr 3 0), (9, .i (wx t : Nat)), (10, .i (wy t : Nat)), (53, .i t)], [(0, ⟨(thL A).map .u64, true⟩), (1, ⟨z25, true⟩), (3, ⟨(bR (thL A) t).map .u64, true⟩)], 4⟩
def σr4 (A : La) (c : BitVec 64) (i : Nat) : St :=
  ⟨[(1, .u64 c), (2, .ptr 0 0), (4, .ptr 1 0), (8, .ptr 3 0), (85, .i i)], [(0, ⟨(fillL 25 (rowL (bL A offs)) (fun k => (thL A).getD k 0) i).map .u64, true⟩), (1, ⟨z25, true⟩), (3, ⟨(bL A offs).map .u64, true⟩)], 4⟩

theorem fillTh (A : La) : fillL 25 (tA' A) (fun k => A.getD k 0) 25 = thL A := fillL_all _ _ _

set_option maxHeartbeats 4000000 in
theorem round_fun (A : La) (c : BitVec 64) (hA : A.length = 25) : Fun Try.prog [] 60 [Enc.enc (⟨A⟩ : Ar (BitVec 64)), Enc.enc c] (Enc.ret (⟨rndS A c⟩ : Ar (BitVec 64))) := by
  refine Fun_cc [ctTurn] mo Try.func60 (by decide) cc60 rs60 Try.ntmps60 (by simp) ?_
  have hct := ctTurn_ok CtOK_nil
  refine AW_run hct 1000 ?_
  simp (maxSteps := 10000000) (disch := omega) only [go_sem, c60, reduceIte, Nat.reduceAdd, Nat.reduceSub, Nat.reduceMul, Nat.reduceDiv, Nat.reduceMod, Nat.reducePow, Nat.reduceLT, Nat.reduceLeDiff, Nat.reduceBEq, Nat.reduceEqDiff, Nat.reduceAnd, Int.reduceLT, Int.reduceLE, Int.reduceEq, Int.reduceAdd, Int.reduceSub, Int.reduceMul, Int.reduceDiv, Int.reduceMod, Int.reducePow, Int.reduceToNat, Int.reduceNatCast, Int.reduceNeg, BitVec.reduceAdd, BitVec.reduceSub, BitVec.reduceMul, BitVec.reduceUDiv, BitVec.reduceUMod, BitVec.reduceDiv, BitVec.reduceMod, BitVec.reduceLT, BitVec.reduceLE, BitVec.reduceEq, BitVec.reduceToNat, BitVec.reduceToInt, BitVec.reduceOfInt, BitVec.reduceSetWidth, BitVec.reduceAnd, BitVec.reduceOr, BitVec.reduceXOr, BitVec.reduceNot, BitVec.reduceHShiftLeft, BitVec.reduceHShiftRight]
  refine AW_loop (σr1 A c) (fun i => i ≤ 25) (fun i => 25 - i) 0 (Nat.zero_le _) (Wk_p [] ?_) fun i hi => ?_
  · simp only [go_sem, σr1, sF0, z25, reduceIte, Nat.reduceAdd, Nat.reduceSub, Nat.reduceMul, Nat.reduceDiv, Nat.reduceMod, Nat.reducePow, Nat.reduceLT, Nat.reduceLeDiff, Nat.reduceBEq, Nat.reduceEqDiff, Nat.reduceAnd, Int.reduceLT, Int.reduceLE, Int.reduceEq, Int.reduceAdd, Int.reduceSub, Int.reduceMul, Int.reduceDiv, Int.reduceMod, Int.reducePow, Int.reduceToNat, Int.reduceNatCast, Int.reduceNeg, BitVec.reduceAdd, BitVec.reduceSub, BitVec.reduceMul, BitVec.reduceUDiv, BitVec.reduceUMod, BitVec.reduceDiv, BitVec.reduceMod, BitVec.reduceLT, BitVec.reduceLE, BitVec.reduceEq, BitVec.reduceToNat, BitVec.reduceToInt, BitVec.reduceOfInt, BitVec.reduceSetWidth, BitVec.reduceAnd, BitVec.reduceOr, BitVec.reduceXOr, BitVec.reduceNot, BitVec.reduceHShiftLeft, BitVec.reduceHShiftRight]
    simp
  · refine AW_run hct 1000 ?_
    simp (maxSteps := 10000000) (disch := omega) only [go_sem, σr1, reduceIte, Nat.reduceAdd, Nat.reduceSub, Nat.reduceMul, Nat.reduceDiv, Nat.reduceMod, Nat.reducePow, Nat.reduceLT, Nat.reduceLeDiff, Nat.reduceBEq, Nat.reduceEqDiff, Nat.reduceAnd, Int.reduceLT, Int.reduceLE, Int.reduceEq, Int.reduceAdd, Int.reduceSub, Int.reduceMul, Int.reduceDiv, Int.reduceMod, Int.reducePow, Int.reduceToNat, Int.reduceNatCast, Int.reduceNeg, BitVec.reduceAdd, BitVec.reduceSub, BitVec.reduceMul, BitVec.reduceUDiv, BitVec.reduceUMod, BitVec.reduceDiv, BitVec.reduceMod, BitVec.reduceLT, BitVec.reduceLE, BitVec.reduceEq, BitVec.reduceToNat, BitVec.reduceToInt, BitVec.reduceOfInt, BitVec.reduceSetWidth, BitVec.reduceAnd, BitVec.reduceOr, BitVec.reduceXOr, BitVec.reduceNot, BitVec.reduceHShiftLeft, BitVec.reduceHShiftRight]
    refine run_br (fun hb => ?_) (fun hb => ?_)
    · have hlt : i < 25 := by have := of_decide_eq_true hb; omega
      have hl := sF_len A i
      simp (maxSteps := 10000000) (disch := omega) only [go_sem, Int.tmod_eq_emod_of_nonneg, reduceIte, Nat.reduceAdd, Nat.reduceSub, Nat.reduceMul, Nat.reduceDiv, Nat.reduceMod, Nat.reducePow, Nat.reduceLT, Nat.reduceLeDiff, Nat.reduceBEq, Nat.reduceEqDiff, Nat.reduceAnd, Int.reduceLT, Int.reduceLE, Int.reduceEq, Int.reduceAdd, Int.reduceSub, Int.reduceMul, Int.reduceDiv, Int.reduceMod, Int.reducePow, Int.reduceToNat, Int.reduceNatCast, Int.reduceNeg, BitVec.reduceAdd, BitVec.reduceSub, BitVec.reduceMul, BitVec.reduceUDiv, BitVec.reduceUMod, BitVec.reduceDiv, BitVec.reduceMod, BitVec.reduceLT, BitVec.reduceLE, BitVec.reduceEq, BitVec.reduceToNat, BitVec.reduceToInt, BitVec.reduceOfInt, BitVec.reduceSetWidth, BitVec.reduceAnd, BitVec.reduceOr, BitVec.reduceXOr, BitVec.reduceNot, BitVec.reduceHShiftLeft, BitVec.reduceHShiftRight]
      have e1 : ((i : Int) % 5).toNat = i % 5 := by omega
      refine ⟨i + 1, by omega, Wk_p [] ?_, by omega⟩
      simp only [go_sem, e1, reduceIte, Nat.reduceAdd, Nat.reduceSub, Nat.reduceMul, Nat.reduceDiv, Nat.reduceMod, Nat.reducePow, Nat.reduceLT, Nat.reduceLeDiff, Nat.reduceBEq, Nat.reduceEqDiff, Nat.reduceAnd, Int.reduceLT, Int.reduceLE, Int.reduceEq, Int.reduceAdd, Int.reduceSub, Int.reduceMul, Int.reduceDiv, Int.reduceMod, Int.reducePow, Int.reduceToNat, Int.reduceNatCast, Int.reduceNeg, BitVec.reduceAdd, BitVec.reduceSub, BitVec.reduceMul, BitVec.reduceUDiv, BitVec.reduceUMod, BitVec.reduceDiv, BitVec.reduceMod, BitVec.reduceLT, BitVec.reduceLE, BitVec.reduceEq, BitVec.reduceToNat, BitVec.reduceToInt, BitVec.reduceOfInt, BitVec.reduceSetWidth, BitVec.reduceAnd, BitVec.reduceOr, BitVec.reduceXOr, BitVec.reduceNot, BitVec.reduceHShiftLeft, BitVec.reduceHShiftRight]
      simp [sF]
    · have hge : i = 25 := by have := of_decide_eq_false hb; omega
      subst hge
      simp (maxSteps := 10000000) (disch := omega) only [go_sem, sF_all, reduceIte, Nat.reduceAdd, Nat.reduceSub, Nat.reduceMul, Nat.reduceDiv, Nat.reduceMod, Nat.reducePow, Nat.reduceLT, Nat.reduceLeDiff, Nat.reduceBEq, Nat.reduceEqDiff, Nat.reduceAnd, Int.reduceLT, Int.reduceLE, Int.reduceEq, Int.reduceAdd, Int.reduceSub, Int.reduceMul, Int.reduceDiv, Int.reduceMod, Int.reducePow, Int.reduceToNat, Int.reduceNatCast, Int.reduceNeg, BitVec.reduceAdd, BitVec.reduceSub, BitVec.reduceMul, BitVec.reduceUDiv, BitVec.reduceUMod, BitVec.reduceDiv, BitVec.reduceMod, BitVec.reduceLT, BitVec.reduceLE, BitVec.reduceEq, BitVec.reduceToNat, BitVec.reduceToInt, BitVec.reduceOfInt, BitVec.reduceSetWidth, BitVec.reduceAnd, BitVec.reduceOr, BitVec.reduceXOr, BitVec.reduceNot, BitVec.reduceHShiftLeft, BitVec.reduceHShiftRight]
      refine AW_loop (σr2 A c) (fun i => i ≤ 25) (fun i => 25 - i) 0 (Nat.zero_le _) (Wk_p [] ?_) fun i hi => ?_
      · simp only [go_sem, σr2, fill0A _ hA, reduceIte, Nat.reduceAdd, Nat.reduceSub, Nat.reduceMul, Nat.reduceDiv, Nat.reduceMod, Nat.reducePow, Nat.reduceLT, Nat.reduceLeDiff, Nat.reduceBEq, Nat.reduceEqDiff, Nat.reduceAnd, Int.reduceLT, Int.reduceLE, Int.reduceEq, Int.reduceAdd, Int.reduceSub, Int.reduceMul, Int.reduceDiv, Int.reduceMod, Int.reducePow, Int.reduceToNat, Int.reduceNatCast, Int.reduceNeg, BitVec.reduceAdd, BitVec.reduceSub, BitVec.reduceMul, BitVec.reduceUDiv, BitVec.reduceUMod, BitVec.reduceDiv, BitVec.reduceMod, BitVec.reduceLT, BitVec.reduceLE, BitVec.reduceEq, BitVec.reduceToNat, BitVec.reduceToInt, BitVec.reduceOfInt, BitVec.reduceSetWidth, BitVec.reduceAnd, BitVec.reduceOr, BitVec.reduceXOr, BitVec.reduceNot, BitVec.reduceHShiftLeft, BitVec.reduceHShiftRight]
        simp
      · refine AW_run hct 1000 ?_
        simp (maxSteps := 10000000) (disch := omega) only [go_sem, σr2, reduceIte, Nat.reduceAdd, Nat.reduceSub, Nat.reduceMul, Nat.reduceDiv, Nat.reduceMod, Nat.reducePow, Nat.reduceLT, Nat.reduceLeDiff, Nat.reduceBEq, Nat.reduceEqDiff, Nat.reduceAnd, Int.reduceLT, Int.reduceLE, Int.reduceEq, Int.reduceAdd, Int.reduceSub, Int.reduceMul, Int.reduceDiv, Int.reduceMod, Int.reducePow, Int.reduceToNat, Int.reduceNatCast, Int.reduceNeg, BitVec.reduceAdd, BitVec.reduceSub, BitVec.reduceMul, BitVec.reduceUDiv, BitVec.reduceUMod, BitVec.reduceDiv, BitVec.reduceMod, BitVec.reduceLT, BitVec.reduceLE, BitVec.reduceEq, BitVec.reduceToNat, BitVec.reduceToInt, BitVec.reduceOfInt, BitVec.reduceSetWidth, BitVec.reduceAnd, BitVec.reduceOr, BitVec.reduceXOr, BitVec.reduceNot, BitVec.reduceHShiftLeft, BitVec.reduceHShiftRight]
        refine run_br (fun hb => ?_) (fun hb => ?_)
        · have hlt : i < 25 := by have := of_decide_eq_true hb; omega
          have hl := fillL_len 25 (tA' A) (fun k => A.getD k 0) i
          have hs := fillL_set (f := tA' A) (g := fun k => A.getD k 0) hlt
          have hg : (fillL 25 (tA' A) (fun k => A.getD k 0) i).getD i 0 = A.getD i 0 := by rw [fillL_get hlt, if_neg (by omega)]
          have hcl := cL_len A
          simp (maxSteps := 10000000) (disch := omega) only [go_sem, ctTurn, Int.tmod_eq_emod_of_nonneg, reduceIte, Nat.reduceAdd, Nat.reduceSub, Nat.reduceMul, Nat.reduceDiv, Nat.reduceMod, Nat.reducePow, Nat.reduceLT, Nat.reduceLeDiff, Nat.reduceBEq, Nat.reduceEqDiff, Nat.reduceAnd, Int.reduceLT, Int.reduceLE, Int.reduceEq, Int.reduceAdd, Int.reduceSub, Int.reduceMul, Int.reduceDiv, Int.reduceMod, Int.reducePow, Int.reduceToNat, Int.reduceNatCast, Int.reduceNeg, BitVec.reduceAdd, BitVec.reduceSub, BitVec.reduceMul, BitVec.reduceUDiv, BitVec.reduceUMod, BitVec.reduceDiv, BitVec.reduceMod, BitVec.reduceLT, BitVec.reduceLE, BitVec.reduceEq, BitVec.reduceToNat, BitVec.reduceToInt, BitVec.reduceOfInt, BitVec.reduceSetWidth, BitVec.reduceAnd, BitVec.reduceOr, BitVec.reduceXOr, BitVec.reduceNot, BitVec.reduceHShiftLeft, BitVec.reduceHShiftRight]
          have e1 : (((i : Int) + 4) % 5).toNat = (i + 4) % 5 := by omega
          have e2 : (((i : Int) + 1) % 5).toNat = (i + 1) % 5 := by omega
          refine ⟨i + 1, by omega, Wk_p [] ?_, by omega⟩
          simp only [go_sem, e1, e2, hg, reduceIte, Nat.reduceAdd, Nat.reduceSub, Nat.reduceMul, Nat.reduceDiv, Nat.reduceMod, Nat.reducePow, Nat.reduceLT, Nat.reduceLeDiff, Nat.reduceBEq, Nat.reduceEqDiff, Nat.reduceAnd, Int.reduceLT, Int.reduceLE, Int.reduceEq, Int.reduceAdd, Int.reduceSub, Int.reduceMul, Int.reduceDiv, Int.reduceMod, Int.reducePow, Int.reduceToNat, Int.reduceNatCast, Int.reduceNeg, BitVec.reduceAdd, BitVec.reduceSub, BitVec.reduceMul, BitVec.reduceUDiv, BitVec.reduceUMod, BitVec.reduceDiv, BitVec.reduceMod, BitVec.reduceLT, BitVec.reduceLE, BitVec.reduceEq, BitVec.reduceToNat, BitVec.reduceToInt, BitVec.reduceOfInt, BitVec.reduceSetWidth, BitVec.reduceAnd, BitVec.reduceOr, BitVec.reduceXOr, BitVec.reduceNot, BitVec.reduceHShiftLeft, BitVec.reduceHShiftRight]
          rw [← hs]
          simp [tA']
        · have hge : i = 25 := by have := of_decide_eq_false hb; omega
          subst hge
          have htl := thL_len A
          have hz := z25_len
          simp (maxSteps := 10000000) (disch := omega) only [go_sem, fillTh, reduceIte, Nat.reduceAdd, Nat.reduceSub, Nat.reduceMul, Nat.reduceDiv, Nat.reduceMod, Nat.reducePow, Nat.reduceLT, Nat.reduceLeDiff, Nat.reduceBEq, Nat.reduceEqDiff, Nat.reduceAnd, Int.reduceLT, Int.reduceLE, Int.reduceEq, Int.reduceAdd, Int.reduceSub, Int.reduceMul, Int.reduceDiv, Int.reduceMod, Int.reducePow, Int.reduceToNat, Int.reduceNatCast, Int.reduceNeg, BitVec.reduceAdd, BitVec.reduceSub, BitVec.reduceMul, BitVec.reduceUDiv, BitVec.reduceUMod, BitVec.reduceDiv, BitVec.reduceMod, BitVec.reduceLT, BitVec.reduceLE, BitVec.reduceEq, BitVec.reduceToNat, BitVec.reduceToInt, BitVec.reduceOfInt, BitVec.reduceSetWidth, BitVec.reduceAnd, BitVec.reduceOr, BitVec.reduceXOr, BitVec.reduceNot, BitVec.reduceHShiftLeft, BitVec.reduceHShiftRight]
          refine AW_loop (σr3 A c) (fun i => i ≤ 24) (fun i => 24 - i) 0 (Nat.zero_le _) (Wk_p [] ?_) fun t ht => ?_
          · simp only [go_sem, σr3, bR0, z25, List.set_cons_zero, wx, wy, reduceIte, Nat.reduceAdd, Nat.reduceSub, Nat.reduceMul, Nat.reduceDiv, Nat.reduceMod, Nat.reducePow, Nat.reduceLT, Nat.reduceLeDiff, Nat.reduceBEq, Nat.reduceEqDiff, Nat.reduceAnd, Int.reduceLT, Int.reduceLE, Int.reduceEq, Int.reduceAdd, Int.reduceSub, Int.reduceMul, Int.reduceDiv, Int.reduceMod, Int.reducePow, Int.reduceToNat, Int.reduceNatCast, Int.reduceNeg, BitVec.reduceAdd, BitVec.reduceSub, BitVec.reduceMul, BitVec.reduceUDiv, BitVec.reduceUMod, BitVec.reduceDiv, BitVec.reduceMod, BitVec.reduceLT, BitVec.reduceLE, BitVec.reduceEq, BitVec.reduceToNat, BitVec.reduceToInt, BitVec.reduceOfInt, BitVec.reduceSetWidth, BitVec.reduceAnd, BitVec.reduceOr, BitVec.reduceXOr, BitVec.reduceNot, BitVec.reduceHShiftLeft, BitVec.reduceHShiftRight]
            simp
          · refine AW_run hct 1000 ?_
            simp (maxSteps := 10000000) (disch := omega) only [go_sem, σr3, reduceIte, Nat.reduceAdd, Nat.reduceSub, Nat.reduceMul, Nat.reduceDiv, Nat.reduceMod, Nat.reducePow, Nat.reduceLT, Nat.reduceLeDiff, Nat.reduceBEq, Nat.reduceEqDiff, Nat.reduceAnd, Int.reduceLT, Int.reduceLE, Int.reduceEq, Int.reduceAdd, Int.reduceSub, Int.reduceMul, Int.reduceDiv, Int.reduceMod, Int.reducePow, Int.reduceToNat, Int.reduceNatCast, Int.reduceNeg, BitVec.reduceAdd, BitVec.reduceSub, BitVec.reduceMul, BitVec.reduceUDiv, BitVec.reduceUMod, BitVec.reduceDiv, BitVec.reduceMod, BitVec.reduceLT, BitVec.reduceLE, BitVec.reduceEq, BitVec.reduceToNat, BitVec.reduceToInt, BitVec.reduceOfInt, BitVec.reduceSetWidth, BitVec.reduceAnd, BitVec.reduceOr, BitVec.reduceXOr, BitVec.reduceNot, BitVec.reduceHShiftLeft, BitVec.reduceHShiftRight]
            refine run_br (fun hb => ?_) (fun hb => ?_)
            · have hlt : t < 24 := by have := of_decide_eq_true hb; omega
              obtain ⟨w1, w2, w3, w4⟩ := way_ok t hlt
              obtain ⟨v1, v2, v3, v4⟩ := way_ok2 t hlt
              have hl := bR_len (thL A) t
              have m1 : 0 ≤ ((t : Int) + 1) * ((t : Int) + 2) ∧ ((t : Int) + 1) * ((t : Int) + 2) ≤ 625 := by
                constructor
                · exact Int.mul_nonneg (by omega) (by omega)
                · exact Int.mul_le_mul (c := 25) (d := 25) (by omega) (by omega) (by omega) (by omega)
              simp (maxSteps := 10000000) (disch := omega) only [go_sem, ctTurn, Int.tmod_eq_emod_of_nonneg, Int.tdiv_eq_ediv_of_nonneg, reduceIte, Nat.reduceAdd, Nat.reduceSub, Nat.reduceMul, Nat.reduceDiv, Nat.reduceMod, Nat.reducePow, Nat.reduceLT, Nat.reduceLeDiff, Nat.reduceBEq, Nat.reduceEqDiff, Nat.reduceAnd, Int.reduceLT, Int.reduceLE, Int.reduceEq, Int.reduceAdd, Int.reduceSub, Int.reduceMul, Int.reduceDiv, Int.reduceMod, Int.reducePow, Int.reduceToNat, Int.reduceNatCast, Int.reduceNeg, BitVec.reduceAdd, BitVec.reduceSub, BitVec.reduceMul, BitVec.reduceUDiv, BitVec.reduceUMod, BitVec.reduceDiv, BitVec.reduceMod, BitVec.reduceLT, BitVec.reduceLE, BitVec.reduceEq, BitVec.reduceToNat, BitVec.reduceToInt, BitVec.reduceOfInt, BitVec.reduceSetWidth, BitVec.reduceAnd, BitVec.reduceOr, BitVec.reduceXOr, BitVec.reduceNot, BitVec.reduceHShiftLeft, BitVec.reduceHShiftRight]
              have e1 : (5 * ((wy (t + 1) : Nat) : Int) + (wy t : Int)).toNat = wD t := by rw [w2]; unfold wD; omega
              have e2 : (5 * (wy t : Int) + (wx t : Int)).toNat = wS t := by unfold wS; omega
              have e3 : (((t : Int) + 1) * ((t : Int) + 2) / 2 % 64).toNat = (t + 1) * (t + 2) / 2 % 64 := by
                have : ((t : Int) + 1) * ((t : Int) + 2) = (((t + 1) * (t + 2) : Nat) : Int) := by simp
                rw [this]; omega
              have e4 : ((2 * (wx t : Int) + 3 * (wy t : Int)) % 5) = ((wy (t + 1) : Nat) : Int) := by omega
              refine ⟨t + 1, by omega, Wk_p [] ?_, by omega⟩
              simp only [go_sem, e1, e2, e3, e4, w1, reduceIte, Nat.reduceAdd, Nat.reduceSub, Nat.reduceMul, Nat.reduceDiv, Nat.reduceMod, Nat.reducePow, Nat.reduceLT, Nat.reduceLeDiff, Nat.reduceBEq, Nat.reduceEqDiff, Nat.reduceAnd, Int.reduceLT, Int.reduceLE, Int.reduceEq, Int.reduceAdd, Int.reduceSub, Int.reduceMul, Int.reduceDiv, Int.reduceMod, Int.reducePow, Int.reduceToNat, Int.reduceNatCast, Int.reduceNeg, BitVec.reduceAdd, BitVec.reduceSub, BitVec.reduceMul, BitVec.reduceUDiv, BitVec.reduceUMod, BitVec.reduceDiv, BitVec.reduceMod, BitVec.reduceLT, BitVec.reduceLE, BitVec.reduceEq, BitVec.reduceToNat, BitVec.reduceToInt, BitVec.reduceOfInt, BitVec.reduceSetWidth, BitVec.reduceAnd, BitVec.reduceOr, BitVec.reduceXOr, BitVec.reduceNot, BitVec.reduceHShiftLeft, BitVec.reduceHShiftRight]
              simp [bR]
            · have hge : t = 24 := by have := of_decide_eq_false hb; omega
              subst hge
              simp (maxSteps := 10000000) (disch := omega) only [go_sem, bR_bL, reduceIte, Nat.reduceAdd, Nat.reduceSub, Nat.reduceMul, Nat.reduceDiv, Nat.reduceMod, Nat.reducePow, Nat.reduceLT, Nat.reduceLeDiff, Nat.reduceBEq, Nat.reduceEqDiff, Nat.reduceAnd, Int.reduceLT, Int.reduceLE, Int.reduceEq, Int.reduceAdd, Int.reduceSub, Int.reduceMul, Int.reduceDiv, Int.reduceMod, Int.reducePow, Int.reduceToNat, Int.reduceNatCast, Int.reduceNeg, BitVec.reduceAdd, BitVec.reduceSub, BitVec.reduceMul, BitVec.reduceUDiv, BitVec.reduceUMod, BitVec.reduceDiv, BitVec.reduceMod, BitVec.reduceLT, BitVec.reduceLE, BitVec.reduceEq, BitVec.reduceToNat, BitVec.reduceToInt, BitVec.reduceOfInt, BitVec.reduceSetWidth, BitVec.reduceAnd, BitVec.reduceOr, BitVec.reduceXOr, BitVec.reduceNot, BitVec.reduceHShiftLeft, BitVec.reduceHShiftRight]
              refine AW_loop (σr4 A c) (fun i => i ≤ 25) (fun i => 25 - i) 0 (Nat.zero_le _) (Wk_p [] ?_) fun i hi => ?_
              · simp only [go_sem, σr4, fill0A _ htl, reduceIte, Nat.reduceAdd, Nat.reduceSub, Nat.reduceMul, Nat.reduceDiv, Nat.reduceMod, Nat.reducePow, Nat.reduceLT, Nat.reduceLeDiff, Nat.reduceBEq, Nat.reduceEqDiff, Nat.reduceAnd, Int.reduceLT, Int.reduceLE, Int.reduceEq, Int.reduceAdd, Int.reduceSub, Int.reduceMul, Int.reduceDiv, Int.reduceMod, Int.reducePow, Int.reduceToNat, Int.reduceNatCast, Int.reduceNeg, BitVec.reduceAdd, BitVec.reduceSub, BitVec.reduceMul, BitVec.reduceUDiv, BitVec.reduceUMod, BitVec.reduceDiv, BitVec.reduceMod, BitVec.reduceLT, BitVec.reduceLE, BitVec.reduceEq, BitVec.reduceToNat, BitVec.reduceToInt, BitVec.reduceOfInt, BitVec.reduceSetWidth, BitVec.reduceAnd, BitVec.reduceOr, BitVec.reduceXOr, BitVec.reduceNot, BitVec.reduceHShiftLeft, BitVec.reduceHShiftRight]
                simp
              · refine AW_run hct 1000 ?_
                simp (maxSteps := 10000000) (disch := omega) only [go_sem, σr4, reduceIte, Nat.reduceAdd, Nat.reduceSub, Nat.reduceMul, Nat.reduceDiv, Nat.reduceMod, Nat.reducePow, Nat.reduceLT, Nat.reduceLeDiff, Nat.reduceBEq, Nat.reduceEqDiff, Nat.reduceAnd, Int.reduceLT, Int.reduceLE, Int.reduceEq, Int.reduceAdd, Int.reduceSub, Int.reduceMul, Int.reduceDiv, Int.reduceMod, Int.reducePow, Int.reduceToNat, Int.reduceNatCast, Int.reduceNeg, BitVec.reduceAdd, BitVec.reduceSub, BitVec.reduceMul, BitVec.reduceUDiv, BitVec.reduceUMod, BitVec.reduceDiv, BitVec.reduceMod, BitVec.reduceLT, BitVec.reduceLE, BitVec.reduceEq, BitVec.reduceToNat, BitVec.reduceToInt, BitVec.reduceOfInt, BitVec.reduceSetWidth, BitVec.reduceAnd, BitVec.reduceOr, BitVec.reduceXOr, BitVec.reduceNot, BitVec.reduceHShiftLeft, BitVec.reduceHShiftRight]
                refine run_br (fun hb => ?_) (fun hb => ?_)
                · have hlt : i < 25 := by have := of_decide_eq_true hb; omega
                  have hl := fillL_len 25 (rowL (bL A offs)) (fun k => (thL A).getD k 0) i
                  have hs := fillL_set (f := rowL (bL A offs)) (g := fun k => (thL A).getD k 0) hlt
                  have hbl := bL_len A offs
                  simp (maxSteps := 10000000) (disch := omega) only [go_sem, Int.tmod_eq_emod_of_nonneg, Int.tdiv_eq_ediv_of_nonneg, reduceIte, Nat.reduceAdd, Nat.reduceSub, Nat.reduceMul, Nat.reduceDiv, Nat.reduceMod, Nat.reducePow, Nat.reduceLT, Nat.reduceLeDiff, Nat.reduceBEq, Nat.reduceEqDiff, Nat.reduceAnd, Int.reduceLT, Int.reduceLE, Int.reduceEq, Int.reduceAdd, Int.reduceSub, Int.reduceMul, Int.reduceDiv, Int.reduceMod, Int.reducePow, Int.reduceToNat, Int.reduceNatCast, Int.reduceNeg, BitVec.reduceAdd, BitVec.reduceSub, BitVec.reduceMul, BitVec.reduceUDiv, BitVec.reduceUMod, BitVec.reduceDiv, BitVec.reduceMod, BitVec.reduceLT, BitVec.reduceLE, BitVec.reduceEq, BitVec.reduceToNat, BitVec.reduceToInt, BitVec.reduceOfInt, BitVec.reduceSetWidth, BitVec.reduceAnd, BitVec.reduceOr, BitVec.reduceXOr, BitVec.reduceNot, BitVec.reduceHShiftLeft, BitVec.reduceHShiftRight]
                  have e1 : ((i : Int) / 5 * 5 + ((i : Int) + 1) % 5).toNat = i / 5 * 5 + (i + 1) % 5 := by omega
                  have e2 : ((i : Int) / 5 * 5 + ((i : Int) + 2) % 5).toNat = i / 5 * 5 + (i + 2) % 5 := by omega
                  refine ⟨i + 1, by omega, Wk_p [] ?_, by omega⟩
                  simp only [go_sem, e1, e2, reduceIte, Nat.reduceAdd, Nat.reduceSub, Nat.reduceMul, Nat.reduceDiv, Nat.reduceMod, Nat.reducePow, Nat.reduceLT, Nat.reduceLeDiff, Nat.reduceBEq, Nat.reduceEqDiff, Nat.reduceAnd, Int.reduceLT, Int.reduceLE, Int.reduceEq, Int.reduceAdd, Int.reduceSub, Int.reduceMul, Int.reduceDiv, Int.reduceMod, Int.reducePow, Int.reduceToNat, Int.reduceNatCast, Int.reduceNeg, BitVec.reduceAdd, BitVec.reduceSub, BitVec.reduceMul, BitVec.reduceUDiv, BitVec.reduceUMod, BitVec.reduceDiv, BitVec.reduceMod, BitVec.reduceLT, BitVec.reduceLE, BitVec.reduceEq, BitVec.reduceToNat, BitVec.reduceToInt, BitVec.reduceOfInt, BitVec.reduceSetWidth, BitVec.reduceAnd, BitVec.reduceOr, BitVec.reduceXOr, BitVec.reduceNot, BitVec.reduceHShiftLeft, BitVec.reduceHShiftRight]
                  rw [← hs]
                  simp [rowL]
                · have hge : i = 25 := by have := of_decide_eq_false hb; omega
                  subst hge
                  have hml := mixS_len A offs
                  have hrl := rndS_len A c
                  have htk : (rndS A c).take 25 = rndS A c := List.take_of_length_le (by omega)
                  have hrs : (mixS A offs).set 0 ((mixS A offs).getD 0 0 ^^^ c) = rndS A c := rfl
                  simp (maxSteps := 10000000) (disch := omega) only [go_sem, fillMix, hrs, htk, List.drop_eq_nil_of_le, List.append_nil, reduceIte, Nat.reduceAdd, Nat.reduceSub, Nat.reduceMul, Nat.reduceDiv, Nat.reduceMod, Nat.reducePow, Nat.reduceLT, Nat.reduceLeDiff, Nat.reduceBEq, Nat.reduceEqDiff, Nat.reduceAnd, Int.reduceLT, Int.reduceLE, Int.reduceEq, Int.reduceAdd, Int.reduceSub, Int.reduceMul, Int.reduceDiv, Int.reduceMod, Int.reducePow, Int.reduceToNat, Int.reduceNatCast, Int.reduceNeg, BitVec.reduceAdd, BitVec.reduceSub, BitVec.reduceMul, BitVec.reduceUDiv, BitVec.reduceUMod, BitVec.reduceDiv, BitVec.reduceMod, BitVec.reduceLT, BitVec.reduceLE, BitVec.reduceEq, BitVec.reduceToNat, BitVec.reduceToInt, BitVec.reduceOfInt, BitVec.reduceSetWidth, BitVec.reduceAnd, BitVec.reduceOr, BitVec.reduceXOr, BitVec.reduceNot, BitVec.reduceHShiftLeft, BitVec.reduceHShiftRight]
    def ctRound : Nat × (List AV → R) := (60, A2 fun (A : Ar (BitVec 64)) (c : BitVec 64) => (A.l.length = 25, Enc.ret (⟨rndS A.l c⟩ : Ar (BitVec 64))))
theorem ctRound_ok {Ct : List (Nat × (List AV → R))} (h : CtOK Try.prog [] Ct) : CtOK Try.prog [] (ctRound :: Ct) := CtOK_cons (Row2 fun A c h => round_fun A.l c h) h
end Go.Lv
