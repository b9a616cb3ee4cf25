/- A part of the proof. -/
import Derived.Test.YtlieeeembbjenaaTo
set_option linter.all false
namespace Go.Lv
open Go Go.Proofs
set_option linter.unusedSimpArgs false
set_option maxRecDepth 100000

theorem baOf_inj (a b : List (BitVec 8)) : (baOf (a.map AV.u8) = baOf (b.map AV.u8)) = (a = b) := by
  apply propext
  constructor
  · intro h
    have h1 := congrArg (fun x : ByteArray => x.data.toList) h
    simp only [baOf, List.map_map] at h1
    exact (List.map_inj_right (f := u8of ∘ AV.u8) (fun x y hxy => by simpa [u8of, Function.comp] using congrArg UInt8.toBitVec hxy)).1 h1
  · rintro rfl; rfl
theorem Equal_fun (a b : List (BitVec 8)) : Fun Try.prog [] 20 [Enc.enc a, Enc.enc b] (.b (decide (a = b))) := by
  refine Fun_cc [] mo Try.func20 (by decide) cc20 rs20 Try.ntmps20 (by simp) ?_
  refine AW_run CtOK_nil 1000 ?_
  simp (disch := omega) only [go_sem, c20, baOf_inj, reduceIte, Nat.reduceAdd, Nat.reduceSub, Nat.reduceMul, Nat.reduceDiv, Nat.reduceMod, Nat.reducePow, Nat.reduceLT, Nat.reduceLeDiff, Nat.reduceBEq, Nat.reduceEqDiff, Nat.reduceAnd, Int.reduceLT, Int.reduceLE, Int.reduceEq, Int.reduceAdd, Int.reduceSub, Int.reduceMul, Int.reduceDiv, Int.reduceMod, Int.reducePow, Int.reduceToNat, Int.reduceNatCast, Int.reduceNeg, BitVec.reduceAdd, BitVec.reduceSub, BitVec.reduceMul, BitVec.reduceUDiv, BitVec.reduceUMod, BitVec.reduceDiv, BitVec.reduceMod, BitVec.reduceLT, BitVec.reduceLE, BitVec.reduceEq, BitVec.reduceToNat, BitVec.reduceToInt, BitVec.reduceOfInt, BitVec.reduceSetWidth, BitVec.reduceAnd, BitVec.reduceOr, BitVec.reduceXOr, BitVec.reduceNot, BitVec.reduceHShiftLeft, BitVec.reduceHShiftRight]
def ctEqual : Nat × (List AV → R) := (20, A2 fun a b : List (BitVec 8) => (True, .b (decide (a = b))))
theorem ctEqual_ok {Ct : List (Nat × (List AV → R))} (h : CtOK Try.prog [] Ct) : CtOK Try.prog [] (ctEqual :: Ct) := CtOK_cons (Row2 fun a b _ => Equal_fun a b) h

def ltB (x y : List Int) (i : Nat) : Bool := (List.range i).any fun j => decide (x.getD j 0 < y.getD j 0)
theorem ltB_succ (x y : List Int) (i : Nat) : ltB x y (i + 1) = (ltB x y i || decide (x.getD i 0 < y.getD i 0)) := by
  simp [ltB, List.range_succ, List.any_append]
theorem ltB_F {x y : List Int} {i : Nat} (h : ltB x y i = false) : ∀ j, j < i → y.getD j 0 ≤ x.getD j 0 := by
  intro j hj
  have := List.any_eq_false.1 h j (by simp [hj])
  simp only [decide_eq_true_eq] at this
  omega
theorem ltB_same (x : List Int) (i : Nat) : ltB x x i = false := by simp [ltB]

def σ4 (o : Ots) (a b : List (BitVec 8)) (x y : List Int) (k : Nat) : St :=
  ⟨[(1, Enc.enc a), (2, Enc.enc b), (7, .ptr 0 0), (8, .ros true x.length (x.map .i)), (10, .ros true y.length (y.map .i)), (12, .b (ltB x y k)), (13, .b (ltB y x k)), (75, .ros true x.length (x.map .i)), (76, .i x.length), (77, .i k)],
   [(0, ⟨[.u32 o.code, .b o.shake, .i o.n, .i o.w, .i o.p, .i o.ls], true⟩)], 1⟩

theorem digS_rg {o : Ots} {b : List (BitVec 8)} : ∀ d ∈ digS o b, 0 ≤ d ∧ d ≤ 2 ^ o.w.toNat - 1 := by
  intro d hd
  rcases List.mem_append.1 hd with h | h <;> exact cutS_range d h

set_option maxHeartbeats 4000000 in
theorem Winternitz_fun (code : BitVec 32) (a b : List (BitVec 8)) (hsa : a.length ≤ 140737488351232) (hsb : b.length ≤ 140737488351232) : Fun Try.prog [] 4 [Enc.enc code, Enc.enc a, Enc.enc b] (.b true) := by
  refine Fun_cc [ctLive, ctSet, ctLDigits, ctRMay, ctEqual] mo Try.func4 (by decide) cc4 rs4 Try.ntmps4 (by simp) ?_
  have hct := ctLive_ok (ctSet_ok (ctLDigits_ok (ctRMay_ok (ctEqual_ok CtOK_nil))))
  refine AW_run hct 1000 ?_
  generalize ho0 : setS code = o
  by_cases hm : otsT o.code = some o
  · by_cases ha : (a.length : Int) = o.n
    · by_cases hb : (b.length : Int) = o.n
      · have ho := otsT_ok hm
        have hp := ho.p
        have hla := digS_len o a ho ha
        have hlb := digS_len o b ho hb
        have hwp := w_pow ho.w
        have hw1 : 0 < o.w ∧ o.w ≤ 8 := by rcases ho.w with h | h | h | h <;> omega
        have hwn : (BitVec.ofInt 64 o.w).toNat = o.w.toNat := by rw [BitVec.toNat_ofInt]; omega
        simp (disch := omega) only [go_sem, c4, ctLive, ctSet, ctLDigits, ctRMay, ctEqual, ret_l, ho0, DigR, rMay, hm, ha, hb, reduceIte, Nat.reduceAdd, Nat.reduceSub, Nat.reduceMul, Nat.reduceDiv, Nat.reduceMod, Nat.reducePow, Nat.reduceLT, Nat.reduceLeDiff, Nat.reduceBEq, Nat.reduceEqDiff, Nat.reduceAnd, Int.reduceLT, Int.reduceLE, Int.reduceEq, Int.reduceAdd, Int.reduceSub, Int.reduceMul, Int.reduceDiv, Int.reduceMod, Int.reducePow, Int.reduceToNat, Int.reduceNatCast, Int.reduceNeg, BitVec.reduceAdd, BitVec.reduceSub, BitVec.reduceMul, BitVec.reduceUDiv, BitVec.reduceUMod, BitVec.reduceDiv, BitVec.reduceMod, BitVec.reduceLT, BitVec.reduceLE, BitVec.reduceEq, BitVec.reduceToNat, BitVec.reduceToInt, BitVec.reduceOfInt, BitVec.reduceSetWidth, BitVec.reduceAnd, BitVec.reduceOr, BitVec.reduceXOr, BitVec.reduceNot, BitVec.reduceHShiftLeft, BitVec.reduceHShiftRight]
        refine AW_loop (σ4 o a b (digS o a) (digS o b)) (fun k => k ≤ (digS o a).length) (fun k => (digS o a).length - k) 0 (Nat.zero_le _) (Wk_p [] ?_) fun k hk => ?_
        · simp only [go_sem, σ4, reduceIte, Nat.reduceAdd, Nat.reduceSub, Nat.reduceMul, Nat.reduceDiv, Nat.reduceMod, Nat.reducePow, Nat.reduceLT, Nat.reduceLeDiff, Nat.reduceBEq, Nat.reduceEqDiff, Nat.reduceAnd, Int.reduceLT, Int.reduceLE, Int.reduceEq, Int.reduceAdd, Int.reduceSub, Int.reduceMul, Int.reduceDiv, Int.reduceMod, Int.reducePow, Int.reduceToNat, Int.reduceNatCast, Int.reduceNeg, BitVec.reduceAdd, BitVec.reduceSub, BitVec.reduceMul, BitVec.reduceUDiv, BitVec.reduceUMod, BitVec.reduceDiv, BitVec.reduceMod, BitVec.reduceLT, BitVec.reduceLE, BitVec.reduceEq, BitVec.reduceToNat, BitVec.reduceToInt, BitVec.reduceOfInt, BitVec.reduceSetWidth, BitVec.reduceAnd, BitVec.reduceOr, BitVec.reduceXOr, BitVec.reduceNot, BitVec.reduceHShiftLeft, BitVec.reduceHShiftRight]
          simp [ltB]
        · refine AW_run hct 1000 ?_
          simp (disch := omega) only [go_sem, σ4, reduceIte, Nat.reduceAdd, Nat.reduceSub, Nat.reduceMul, Nat.reduceDiv, Nat.reduceMod, Nat.reducePow, Nat.reduceLT, Nat.reduceLeDiff, Nat.reduceBEq, Nat.reduceEqDiff, Nat.reduceAnd, Int.reduceLT, Int.reduceLE, Int.reduceEq, Int.reduceAdd, Int.reduceSub, Int.reduceMul, Int.reduceDiv, Int.reduceMod, Int.reducePow, Int.reduceToNat, Int.reduceNatCast, Int.reduceNeg, BitVec.reduceAdd, BitVec.reduceSub, BitVec.reduceMul, BitVec.reduceUDiv, BitVec.reduceUMod, BitVec.reduceDiv, BitVec.reduceMod, BitVec.reduceLT, BitVec.reduceLE, BitVec.reduceEq, BitVec.reduceToNat, BitVec.reduceToInt, BitVec.reduceOfInt, BitVec.reduceSetWidth, BitVec.reduceAnd, BitVec.reduceOr, BitVec.reduceXOr, BitVec.reduceNot, BitVec.reduceHShiftLeft, BitVec.reduceHShiftRight]
          refine run_br (fun hd => ?_) (fun hd => ?_)
          · have hlt : k < (digS o a).length := by have := of_decide_eq_true hd; omega
            have r1 := digS_rg (o := o) (b := a) ((digS o a).getD k 0) (by simp [List.getD_eq_getElem?_getD, hlt])
            cases h1 : ltB (digS o a) (digS o b) k <;> cases h2 : ltB (digS o b) (digS o a) k
            all_goals
              simp (disch := omega) only [go_sem, h1, h2, hwn, Int.one_mul, reduceIte, Nat.reduceAdd, Nat.reduceSub, Nat.reduceMul, Nat.reduceDiv, Nat.reduceMod, Nat.reducePow, Nat.reduceLT, Nat.reduceLeDiff, Nat.reduceBEq, Nat.reduceEqDiff, Nat.reduceAnd, Int.reduceLT, Int.reduceLE, Int.reduceEq, Int.reduceAdd, Int.reduceSub, Int.reduceMul, Int.reduceDiv, Int.reduceMod, Int.reducePow, Int.reduceToNat, Int.reduceNatCast, Int.reduceNeg, BitVec.reduceAdd, BitVec.reduceSub, BitVec.reduceMul, BitVec.reduceUDiv, BitVec.reduceUMod, BitVec.reduceDiv, BitVec.reduceMod, BitVec.reduceLT, BitVec.reduceLE, BitVec.reduceEq, BitVec.reduceToNat, BitVec.reduceToInt, BitVec.reduceOfInt, BitVec.reduceSetWidth, BitVec.reduceAnd, BitVec.reduceOr, BitVec.reduceXOr, BitVec.reduceNot, BitVec.reduceHShiftLeft, BitVec.reduceHShiftRight]
              refine ⟨k + 1, by omega, Wk_p [] ?_, by omega⟩
              simp only [go_sem, reduceIte, Nat.reduceAdd, Nat.reduceSub, Nat.reduceMul, Nat.reduceDiv, Nat.reduceMod, Nat.reducePow, Nat.reduceLT, Nat.reduceLeDiff, Nat.reduceBEq, Nat.reduceEqDiff, Nat.reduceAnd, Int.reduceLT, Int.reduceLE, Int.reduceEq, Int.reduceAdd, Int.reduceSub, Int.reduceMul, Int.reduceDiv, Int.reduceMod, Int.reducePow, Int.reduceToNat, Int.reduceNatCast, Int.reduceNeg, BitVec.reduceAdd, BitVec.reduceSub, BitVec.reduceMul, BitVec.reduceUDiv, BitVec.reduceUMod, BitVec.reduceDiv, BitVec.reduceMod, BitVec.reduceLT, BitVec.reduceLE, BitVec.reduceEq, BitVec.reduceToNat, BitVec.reduceToInt, BitVec.reduceOfInt, BitVec.reduceSetWidth, BitVec.reduceAnd, BitVec.reduceOr, BitVec.reduceXOr, BitVec.reduceNot, BitVec.reduceHShiftLeft, BitVec.reduceHShiftRight]
              simp [ltB_succ, h1, h2]
          · have hge : k = (digS o a).length := by have := of_decide_eq_false hd; omega
            subst hge
            have hlen : (digS o a).length = o.p.toNat := by omega
            by_cases hab : a = b
            · subst hab
              simp (disch := omega) only [go_sem, ctEqual, ltB_same, reduceIte, Nat.reduceAdd, Nat.reduceSub, Nat.reduceMul, Nat.reduceDiv, Nat.reduceMod, Nat.reducePow, Nat.reduceLT, Nat.reduceLeDiff, Nat.reduceBEq, Nat.reduceEqDiff, Nat.reduceAnd, Int.reduceLT, Int.reduceLE, Int.reduceEq, Int.reduceAdd, Int.reduceSub, Int.reduceMul, Int.reduceDiv, Int.reduceMod, Int.reducePow, Int.reduceToNat, Int.reduceNatCast, Int.reduceNeg, BitVec.reduceAdd, BitVec.reduceSub, BitVec.reduceMul, BitVec.reduceUDiv, BitVec.reduceUMod, BitVec.reduceDiv, BitVec.reduceMod, BitVec.reduceLT, BitVec.reduceLE, BitVec.reduceEq, BitVec.reduceToNat, BitVec.reduceToInt, BitVec.reduceOfInt, BitVec.reduceSetWidth, BitVec.reduceAnd, BitVec.reduceOr, BitVec.reduceXOr, BitVec.reduceNot, BitVec.reduceHShiftLeft, BitVec.reduceHShiftRight]
            · have f1 : ltB (digS o a) (digS o b) (digS o a).length = true := by
                cases h : ltB (digS o a) (digS o b) (digS o a).length with
                | true => rfl
                | false => rw [hlen] at h; exact absurd (wint hm ha hb (ltB_F h)) hab
              have f2 : ltB (digS o b) (digS o a) (digS o a).length = true := by
                cases h : ltB (digS o b) (digS o a) (digS o a).length with
                | true => rfl
                | false => rw [hlen] at h; exact absurd (wint hm hb ha (ltB_F h)).symm hab
              simp (disch := omega) only [go_sem, ctEqual, f1, f2, hab, reduceIte, Nat.reduceAdd, Nat.reduceSub, Nat.reduceMul, Nat.reduceDiv, Nat.reduceMod, Nat.reducePow, Nat.reduceLT, Nat.reduceLeDiff, Nat.reduceBEq, Nat.reduceEqDiff, Nat.reduceAnd, Int.reduceLT, Int.reduceLE, Int.reduceEq, Int.reduceAdd, Int.reduceSub, Int.reduceMul, Int.reduceDiv, Int.reduceMod, Int.reducePow, Int.reduceToNat, Int.reduceNatCast, Int.reduceNeg, BitVec.reduceAdd, BitVec.reduceSub, BitVec.reduceMul, BitVec.reduceUDiv, BitVec.reduceUMod, BitVec.reduceDiv, BitVec.reduceMod, BitVec.reduceLT, BitVec.reduceLE, BitVec.reduceEq, BitVec.reduceToNat, BitVec.reduceToInt, BitVec.reduceOfInt, BitVec.reduceSetWidth, BitVec.reduceAnd, BitVec.reduceOr, BitVec.reduceXOr, BitVec.reduceNot, BitVec.reduceHShiftLeft, BitVec.reduceHShiftRight]
      · simp (disch := omega) only [go_sem, c4, ctLive, ctSet, ctLDigits, ctRMay, ctEqual, ret_l, ho0, DigR, rMay, hm, ha, hb, reduceIte, Nat.reduceAdd, Nat.reduceSub, Nat.reduceMul, Nat.reduceDiv, Nat.reduceMod, Nat.reducePow, Nat.reduceLT, Nat.reduceLeDiff, Nat.reduceBEq, Nat.reduceEqDiff, Nat.reduceAnd, Int.reduceLT, Int.reduceLE, Int.reduceEq, Int.reduceAdd, Int.reduceSub, Int.reduceMul, Int.reduceDiv, Int.reduceMod, Int.reducePow, Int.reduceToNat, Int.reduceNatCast, Int.reduceNeg, BitVec.reduceAdd, BitVec.reduceSub, BitVec.reduceMul, BitVec.reduceUDiv, BitVec.reduceUMod, BitVec.reduceDiv, BitVec.reduceMod, BitVec.reduceLT, BitVec.reduceLE, BitVec.reduceEq, BitVec.reduceToNat, BitVec.reduceToInt, BitVec.reduceOfInt, BitVec.reduceSetWidth, BitVec.reduceAnd, BitVec.reduceOr, BitVec.reduceXOr, BitVec.reduceNot, BitVec.reduceHShiftLeft, BitVec.reduceHShiftRight]
    · by_cases hb : (b.length : Int) = o.n
      · simp (disch := omega) only [go_sem, c4, ctLive, ctSet, ctLDigits, ctRMay, ctEqual, ret_l, ho0, DigR, rMay, hm, ha, hb, reduceIte, Nat.reduceAdd, Nat.reduceSub, Nat.reduceMul, Nat.reduceDiv, Nat.reduceMod, Nat.reducePow, Nat.reduceLT, Nat.reduceLeDiff, Nat.reduceBEq, Nat.reduceEqDiff, Nat.reduceAnd, Int.reduceLT, Int.reduceLE, Int.reduceEq, Int.reduceAdd, Int.reduceSub, Int.reduceMul, Int.reduceDiv, Int.reduceMod, Int.reducePow, Int.reduceToNat, Int.reduceNatCast, Int.reduceNeg, BitVec.reduceAdd, BitVec.reduceSub, BitVec.reduceMul, BitVec.reduceUDiv, BitVec.reduceUMod, BitVec.reduceDiv, BitVec.reduceMod, BitVec.reduceLT, BitVec.reduceLE, BitVec.reduceEq, BitVec.reduceToNat, BitVec.reduceToInt, BitVec.reduceOfInt, BitVec.reduceSetWidth, BitVec.reduceAnd, BitVec.reduceOr, BitVec.reduceXOr, BitVec.reduceNot, BitVec.reduceHShiftLeft, BitVec.reduceHShiftRight]
      · simp (disch := omega) only [go_sem, c4, ctLive, ctSet, ctLDigits, ctRMay, ctEqual, ret_l, ho0, DigR, rMay, hm, ha, hb, reduceIte, Nat.reduceAdd, Nat.reduceSub, Nat.reduceMul, Nat.reduceDiv, Nat.reduceMod, Nat.reducePow, Nat.reduceLT, Nat.reduceLeDiff, Nat.reduceBEq, Nat.reduceEqDiff, Nat.reduceAnd, Int.reduceLT, Int.reduceLE, Int.reduceEq, Int.reduceAdd, Int.reduceSub, Int.reduceMul, Int.reduceDiv, Int.reduceMod, Int.reducePow, Int.reduceToNat, Int.reduceNatCast, Int.reduceNeg, BitVec.reduceAdd, BitVec.reduceSub, BitVec.reduceMul, BitVec.reduceUDiv, BitVec.reduceUMod, BitVec.reduceDiv, BitVec.reduceMod, BitVec.reduceLT, BitVec.reduceLE, BitVec.reduceEq, BitVec.reduceToNat, BitVec.reduceToInt, BitVec.reduceOfInt, BitVec.reduceSetWidth, BitVec.reduceAnd, BitVec.reduceOr, BitVec.reduceXOr, BitVec.reduceNot, BitVec.reduceHShiftLeft, BitVec.reduceHShiftRight]
  · by_cases hb : (b.length : Int) = o.n
    · simp (disch := omega) only [go_sem, c4, ctLive, ctSet, ctLDigits, ctRMay, ctEqual, ret_l, ho0, DigR, rMay, hm, hb, reduceIte, Nat.reduceAdd, Nat.reduceSub, Nat.reduceMul, Nat.reduceDiv, Nat.reduceMod, Nat.reducePow, Nat.reduceLT, Nat.reduceLeDiff, Nat.reduceBEq, Nat.reduceEqDiff, Nat.reduceAnd, Int.reduceLT, Int.reduceLE, Int.reduceEq, Int.reduceAdd, Int.reduceSub, Int.reduceMul, Int.reduceDiv, Int.reduceMod, Int.reducePow, Int.reduceToNat, Int.reduceNatCast, Int.reduceNeg, BitVec.reduceAdd, BitVec.reduceSub, BitVec.reduceMul, BitVec.reduceUDiv, BitVec.reduceUMod, BitVec.reduceDiv, BitVec.reduceMod, BitVec.reduceLT, BitVec.reduceLE, BitVec.reduceEq, BitVec.reduceToNat, BitVec.reduceToInt, BitVec.reduceOfInt, BitVec.reduceSetWidth, BitVec.reduceAnd, BitVec.reduceOr, BitVec.reduceXOr, BitVec.reduceNot, BitVec.reduceHShiftLeft, BitVec.reduceHShiftRight]
    · simp (disch := omega) only [go_sem, c4, ctLive, ctSet, ctLDigits, ctRMay, ctEqual, ret_l, ho0, DigR, rMay, hm, hb, reduceIte, Nat.reduceAdd, Nat.reduceSub, Nat.reduceMul, Nat.reduceDiv, Nat.reduceMod, Nat.reducePow, Nat.reduceLT, Nat.reduceLeDiff, Nat.reduceBEq, Nat.reduceEqDiff, Nat.reduceAnd, Int.reduceLT, Int.reduceLE, Int.reduceEq, Int.reduceAdd, Int.reduceSub, Int.reduceMul, Int.reduceDiv, Int.reduceMod, Int.reducePow, Int.reduceToNat, Int.reduceNatCast, Int.reduceNeg, BitVec.reduceAdd, BitVec.reduceSub, BitVec.reduceMul, BitVec.reduceUDiv, BitVec.reduceUMod, BitVec.reduceDiv, BitVec.reduceMod, BitVec.reduceLT, BitVec.reduceLE, BitVec.reduceEq, BitVec.reduceToNat, BitVec.reduceToInt, BitVec.reduceOfInt, BitVec.reduceSetWidth, BitVec.reduceAnd, BitVec.reduceOr, BitVec.reduceXOr, BitVec.reduceNot, BitVec.reduceHShiftLeft, BitVec.reduceHShiftRight]
end Go.Lv
