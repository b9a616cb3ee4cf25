/- A part of the proof. -/
import Derived.Test.YtlieeeembbjenaaYf
set_option linter.all false
namespace Go.Lv
open Go Go.Proofs
set_option linter.unusedSimpArgs false
set_option maxRecDepth 100000

theorem one_shl (h : Nat) : 1#64 <<< h = pw h := by rw [← pw_zero, pw_shl, Nat.zero_add]
/-- a leaf of an index -/
def leafS (ls : List Level) (x : BitVec 64) (i : Nat) : BitVec 32 := ((x >>> (hs ls ls.length - hs ls (i + 1))) &&& (pw (hN (ls.getD i lv0)) - 1#64)).setWidth 32
def leaves (ls : List Level) (x : BitVec 64) : List (BitVec 32) := (List.range ls.length).map (leafS ls x)
def outL (ls : List Level) (x : BitVec 64) (i : Nat) : List (BitVec 32) := (List.range ls.length).map fun j => if i ≤ j then leafS ls x j else 0#32
theorem outL_zero (ls : List Level) (x : BitVec 64) : outL ls x 0 = leaves ls x := by
  unfold outL leaves
  apply List.map_congr_left
  intro j _
  rw [if_pos (Nat.zero_le _)]
theorem outL_len (ls : List Level) (x : BitVec 64) (i : Nat) : (outL ls x i).length = ls.length := by simp [outL]
theorem outL_all (ls : List Level) (x : BitVec 64) : outL ls x ls.length = List.replicate ls.length 0#32 := by
  unfold outL
  apply List.ext_getElem (by simp)
  intro j h1 h2
  simp only [List.getElem_map, List.getElem_range, List.getElem_replicate]
  rw [if_neg (by simp at h1; omega)]
theorem outL_set (ls : List Level) (x : BitVec 64) (i : Nat) (h : i < ls.length) : (outL ls x (i + 1)).set i (leafS ls x i) = outL ls x i := by
  unfold outL
  apply List.ext_getElem (by simp)
  intro j h1 h2
  simp only [List.getElem_set, List.getElem_map, List.getElem_range]
  by_cases e : i = j
  · subst e; simp
  · by_cases e2 : i ≤ j
    · rw [if_neg e, if_pos e2, if_pos (by omega)]
    · rw [if_neg e, if_neg e2, if_neg (by omega)]
theorem hs_mono (ls : List Level) (i : Nat) : ∀ d, i + d ≤ ls.length → hs ls i ≤ hs ls (i + d)
  | 0, _ => Nat.le_refl _
  | d + 1, h => by have := hs_mono ls i d (by omega); rw [← Nat.add_assoc, hs_succ ls (i + d) (by omega)]; omega
def splitE (ls : List Level) (x : BitVec 64) : Int := if mayP ls then if x < pw (hs ls ls.length) then 0 else 80 else 90
def splitL (ls : List Level) (x : BitVec 64) : List (BitVec 32) := if mayP ls then if x < pw (hs ls ls.length) then leaves ls x else [] else []

def σsp (ls : List Level) (x : BitVec 64) (m : Nat) : St := ⟨[(0, .ros false ls.length (lvc ls)), (1, .u64 (x >>> (hs ls ls.length - hs ls m))), (7, .sl 0 0 ls.length 1), (8, .i ((m : Int) - 1))], [(0, ⟨(outL ls x m).map .u32, true⟩)], 1⟩
set_option maxHeartbeats 4000000 in
theorem Split_fun (ls : Lvs) (x : BitVec 64) (hl : ls.l.length ≤ 140737488351232) : Fun Try.prog [] 21 [Enc.enc ls, Enc.enc x] (.tup [Enc.ret (splitL ls.l x), .i (splitE ls.l x)]) := by
  obtain ⟨ls⟩ := ls
  simp only at hl ⊢
  refine Fun_cc [ctMayL, ctCount 55, ctSets] mo Try.func21 (by decide) cc21 rs21 Try.ntmps21 (by simp) ?_
  have hct := ctMayL_ok (ctCount_ok (ctSets_ok CtOK_nil))
  by_cases hm : mayP ls
  · have h8 := hm.2.1
    have h1 := hm.1
    by_cases hx : x < pw (hs ls ls.length)
    · rw [splitL, splitE, if_pos hm, if_pos hm, if_pos hx, if_pos hx]
      have hx' : ¬ (pw (hs ls ls.length) ≤ x) := by rw [BitVec.le_def]; rw [BitVec.lt_def] at hx; omega
      refine AW_run hct 1000 ?_
      simp (maxSteps := 10000000) (disch := omega) only [go_sem, c21, ctMayL, ctCount, ctSets, hm, hx', reduceIte, Nat.reduceAdd, Nat.reduceSub, Nat.reduceMul, Nat.reduceDiv, Nat.reduceMod, Nat.reducePow, Nat.reduceLT, Nat.reduceLeDiff, Nat.reduceBEq, Nat.reduceEqDiff, Nat.reduceAnd, Int.reduceLT, Int.reduceLE, Int.reduceEq, Int.reduceAdd, Int.reduceSub, Int.reduceMul, Int.reduceDiv, Int.reduceMod, Int.reducePow, Int.reduceToNat, Int.reduceNatCast, Int.reduceNeg, BitVec.reduceAdd, BitVec.reduceSub, BitVec.reduceMul, BitVec.reduceUDiv, BitVec.reduceUMod, BitVec.reduceDiv, BitVec.reduceMod, BitVec.reduceLT, BitVec.reduceLE, BitVec.reduceEq, BitVec.reduceToNat, BitVec.reduceToInt, BitVec.reduceOfInt, BitVec.reduceSetWidth, BitVec.reduceAnd, BitVec.reduceOr, BitVec.reduceXOr, BitVec.reduceNot, BitVec.reduceHShiftLeft, BitVec.reduceHShiftRight]
      refine AW_loop (σsp ls x) (fun m => m ≤ ls.length) (fun m => m) ls.length (Nat.le_refl _) (Wk_p [(0, 0)] ?_) fun m hk => ?_
      · simp only [go_sem, σsp, outL_all, Nat.sub_self, reduceIte, Nat.reduceAdd, Nat.reduceSub, Nat.reduceMul, Nat.reduceDiv, Nat.reduceMod, Nat.reducePow, Nat.reduceLT, Nat.reduceLeDiff, Nat.reduceBEq, Nat.reduceEqDiff, Nat.reduceAnd, Int.reduceLT, Int.reduceLE, Int.reduceEq, Int.reduceAdd, Int.reduceSub, Int.reduceMul, Int.reduceDiv, Int.reduceMod, Int.reducePow, Int.reduceToNat, Int.reduceNatCast, Int.reduceNeg, BitVec.reduceAdd, BitVec.reduceSub, BitVec.reduceMul, BitVec.reduceUDiv, BitVec.reduceUMod, BitVec.reduceDiv, BitVec.reduceMod, BitVec.reduceLT, BitVec.reduceLE, BitVec.reduceEq, BitVec.reduceToNat, BitVec.reduceToInt, BitVec.reduceOfInt, BitVec.reduceSetWidth, BitVec.reduceAnd, BitVec.reduceOr, BitVec.reduceXOr, BitVec.reduceNot, BitVec.reduceHShiftLeft, BitVec.reduceHShiftRight]
        try simp
      · by_cases hd : 0 < m
        · obtain ⟨i, rfl⟩ : ∃ i, m = i + 1 := ⟨m - 1, by omega⟩
          have e1 : (((i + 1 : Nat) : Int) - 1) = (i : Int) := by omega
          have hat := lvc_at' ls i (by omega)
          have hsu := hs_succ ls i (by omega)
          have hset := outL_set ls x i (by omega)
          rw [leafS] at hset
          have hmo := hs_mono ls (i + 1) (ls.length - (i + 1)) (by omega)
          rw [Nat.add_sub_cancel' hk] at hmo
          obtain ⟨v, hv⟩ : ∃ v, v = ls.getD i lv0 := ⟨_, rfl⟩
          rw [← hv] at hat hsu hset
          have hb := hN_eq v
          have hn := hN_le v
          have e2 : hs ls ls.length - hs ls (i + 1) + hN v = hs ls ls.length - hs ls i := by omega
          have hol := outL_len ls x (i + 1)
          refine AW_run hct 1000 ?_
          simp (maxSteps := 10000000) (disch := omega) only [go_sem, σsp, ctMayL, ctCount, ctSets, e1, hat, hb, one_shl, List.length_map, hol, reduceIte, Nat.reduceAdd, Nat.reduceSub, Nat.reduceMul, Nat.reduceDiv, Nat.reduceMod, Nat.reducePow, Nat.reduceLT, Nat.reduceLeDiff, Nat.reduceBEq, Nat.reduceEqDiff, Nat.reduceAnd, Int.reduceLT, Int.reduceLE, Int.reduceEq, Int.reduceAdd, Int.reduceSub, Int.reduceMul, Int.reduceDiv, Int.reduceMod, Int.reducePow, Int.reduceToNat, Int.reduceNatCast, Int.reduceNeg, BitVec.reduceAdd, BitVec.reduceSub, BitVec.reduceMul, BitVec.reduceUDiv, BitVec.reduceUMod, BitVec.reduceDiv, BitVec.reduceMod, BitVec.reduceLT, BitVec.reduceLE, BitVec.reduceEq, BitVec.reduceToNat, BitVec.reduceToInt, BitVec.reduceOfInt, BitVec.reduceSetWidth, BitVec.reduceAnd, BitVec.reduceOr, BitVec.reduceXOr, BitVec.reduceNot, BitVec.reduceHShiftLeft, BitVec.reduceHShiftRight]
          refine ⟨i, by omega, Wk_p [(0, 0)] ?_, by omega⟩
          simp only [go_sem, σsp, e1, reduceIte, Nat.reduceAdd, Nat.reduceSub, Nat.reduceMul, Nat.reduceDiv, Nat.reduceMod, Nat.reducePow, Nat.reduceLT, Nat.reduceLeDiff, Nat.reduceBEq, Nat.reduceEqDiff, Nat.reduceAnd, Int.reduceLT, Int.reduceLE, Int.reduceEq, Int.reduceAdd, Int.reduceSub, Int.reduceMul, Int.reduceDiv, Int.reduceMod, Int.reducePow, Int.reduceToNat, Int.reduceNatCast, Int.reduceNeg, BitVec.reduceAdd, BitVec.reduceSub, BitVec.reduceMul, BitVec.reduceUDiv, BitVec.reduceUMod, BitVec.reduceDiv, BitVec.reduceMod, BitVec.reduceLT, BitVec.reduceLE, BitVec.reduceEq, BitVec.reduceToNat, BitVec.reduceToInt, BitVec.reduceOfInt, BitVec.reduceSetWidth, BitVec.reduceAnd, BitVec.reduceOr, BitVec.reduceXOr, BitVec.reduceNot, BitVec.reduceHShiftLeft, BitVec.reduceHShiftRight]
          simp
          exact ⟨by rw [← BitVec.shiftRight_add, e2], by rw [← BitVec.setWidth_and, one_shl, ← List.map_set, hset]⟩
        · have : m = 0 := by omega
          subst this
          refine AW_run hct 1000 ?_
          simp (maxSteps := 10000000) (disch := omega) only [go_sem, σsp, ctMayL, ctCount, ctSets, outL_zero, reduceIte, Nat.reduceAdd, Nat.reduceSub, Nat.reduceMul, Nat.reduceDiv, Nat.reduceMod, Nat.reducePow, Nat.reduceLT, Nat.reduceLeDiff, Nat.reduceBEq, Nat.reduceEqDiff, Nat.reduceAnd, Int.reduceLT, Int.reduceLE, Int.reduceEq, Int.reduceAdd, Int.reduceSub, Int.reduceMul, Int.reduceDiv, Int.reduceMod, Int.reducePow, Int.reduceToNat, Int.reduceNatCast, Int.reduceNeg, BitVec.reduceAdd, BitVec.reduceSub, BitVec.reduceMul, BitVec.reduceUDiv, BitVec.reduceUMod, BitVec.reduceDiv, BitVec.reduceMod, BitVec.reduceLT, BitVec.reduceLE, BitVec.reduceEq, BitVec.reduceToNat, BitVec.reduceToInt, BitVec.reduceOfInt, BitVec.reduceSetWidth, BitVec.reduceAnd, BitVec.reduceOr, BitVec.reduceXOr, BitVec.reduceNot, BitVec.reduceHShiftLeft, BitVec.reduceHShiftRight]
          have : (leaves ls x).length = ls.length := by simp [leaves]
          simp [this]
          rw [List.take_of_length_le (by simp [this])]
    · rw [splitL, splitE, if_pos hm, if_pos hm, if_neg hx, if_neg hx]
      have hx' : (pw (hs ls ls.length) ≤ x) := by rw [BitVec.le_def]; rw [BitVec.lt_def] at hx; omega
      refine AW_run hct 1000 ?_
      simp (maxSteps := 10000000) (disch := omega) only [go_sem, c21, ctMayL, ctCount, ctSets, hm, hx', reduceIte, Nat.reduceAdd, Nat.reduceSub, Nat.reduceMul, Nat.reduceDiv, Nat.reduceMod, Nat.reducePow, Nat.reduceLT, Nat.reduceLeDiff, Nat.reduceBEq, Nat.reduceEqDiff, Nat.reduceAnd, Int.reduceLT, Int.reduceLE, Int.reduceEq, Int.reduceAdd, Int.reduceSub, Int.reduceMul, Int.reduceDiv, Int.reduceMod, Int.reducePow, Int.reduceToNat, Int.reduceNatCast, Int.reduceNeg, BitVec.reduceAdd, BitVec.reduceSub, BitVec.reduceMul, BitVec.reduceUDiv, BitVec.reduceUMod, BitVec.reduceDiv, BitVec.reduceMod, BitVec.reduceLT, BitVec.reduceLE, BitVec.reduceEq, BitVec.reduceToNat, BitVec.reduceToInt, BitVec.reduceOfInt, BitVec.reduceSetWidth, BitVec.reduceAnd, BitVec.reduceOr, BitVec.reduceXOr, BitVec.reduceNot, BitVec.reduceHShiftLeft, BitVec.reduceHShiftRight]
      try simp
  · rw [splitL, splitE, if_neg hm, if_neg hm]
    refine AW_run hct 1000 ?_
    simp (maxSteps := 10000000) (disch := omega) only [go_sem, c21, ctMayL, ctCount, ctSets, hm, reduceIte, Nat.reduceAdd, Nat.reduceSub, Nat.reduceMul, Nat.reduceDiv, Nat.reduceMod, Nat.reducePow, Nat.reduceLT, Nat.reduceLeDiff, Nat.reduceBEq, Nat.reduceEqDiff, Nat.reduceAnd, Int.reduceLT, Int.reduceLE, Int.reduceEq, Int.reduceAdd, Int.reduceSub, Int.reduceMul, Int.reduceDiv, Int.reduceMod, Int.reducePow, Int.reduceToNat, Int.reduceNatCast, Int.reduceNeg, BitVec.reduceAdd, BitVec.reduceSub, BitVec.reduceMul, BitVec.reduceUDiv, BitVec.reduceUMod, BitVec.reduceDiv, BitVec.reduceMod, BitVec.reduceLT, BitVec.reduceLE, BitVec.reduceEq, BitVec.reduceToNat, BitVec.reduceToInt, BitVec.reduceOfInt, BitVec.reduceSetWidth, BitVec.reduceAnd, BitVec.reduceOr, BitVec.reduceXOr, BitVec.reduceNot, BitVec.reduceHShiftLeft, BitVec.reduceHShiftRight]
    try simp
def ctSplit : Nat × (List AV → R) := (21, A2 fun (ls : Lvs) (x : BitVec 64) => (ls.l.length ≤ 140737488351232, .tup [Enc.ret (splitL ls.l x), .i (splitE ls.l x)]))
theorem ctSplit_ok {Ct : List (Nat × (List AV → R))} (h : CtOK Try.prog [] Ct) : CtOK Try.prog [] (ctSplit :: Ct) := CtOK_cons (Row2 fun k x h => Split_fun k x h) h
end Go.Lv
