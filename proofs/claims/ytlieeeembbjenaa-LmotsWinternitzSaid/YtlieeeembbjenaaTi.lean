/- A part of the proof. -/
import Derived.Test.YtlieeeembbjenaaTh
set_option linter.all false
namespace Go.Lv
open Go Go.Proofs
set_option linter.unusedSimpArgs false
set_option maxRecDepth 100000

structure OtsOK (o : Ots) : Prop where
  w : wOK o.w
  n : o.n = 24 ∨ o.n = 32
  p : 26 ≤ o.p ∧ o.p ≤ 265
  ls : 0 ≤ o.ls ∧ o.ls ≤ 8
  u : 8 * o.n / o.w ≤ o.p
  u2 : o.p ≤ 8 * o.n / o.w + 16 / o.w

theorem otsT_ok {c : BitVec 32} {o : Ots} (h : otsT c = some o) : OtsOK o := by
  unfold otsT at h
  split at h <;> first
    | (cases h; exact ⟨by unfold wOK; decide, by decide, by decide, by decide, by decide, by decide⟩)
    | cases h

def sumS (w : Nat) (l : List Int) : Int := (l.map fun d => (2 : Int) ^ w - 1 - d).sum
def digS (o : Ots) (sum : List (BitVec 8)) : List Int :=
  cutS o.w.toNat sum o.p ++ cutS o.w.toNat (bigL ((BitVec.ofInt 16 (sumS o.w.toNat (cutS o.w.toNat sum o.p) * 2 ^ o.ls.toNat)).setWidth 64) 2) (o.p - (cutS o.w.toNat sum o.p).length)

def ctCut : Nat × (List AV → R) := (81, A3 fun (o : Ots) (b : List (BitVec 8)) (most : Int) => (wOK o.w ∧ b.length ≤ 1000000000 ∧ i64ok most, Enc.ret (cutS o.w.toNat b most)))
theorem ctCut_ok {Ct : List (Nat × (List AV → R))} (h : CtOK Try.prog [] Ct) : CtOK Try.prog [] (ctCut :: Ct) := CtOK_cons (Row3 fun o b m h => cut_fun o b m h.1 h.2.1 h.2.2) h
def ctU16 : Nat × (List AV → R) := (83, A1 fun n : BitVec 16 => (True, Enc.ret (bigL (n.setWidth 64) 2)))
theorem ctU16_ok {Ct : List (Nat × (List AV → R))} (h : CtOK Try.prog [] Ct) : CtOK Try.prog [] (ctU16 :: Ct) := CtOK_cons (Row1 fun n _ => U16_fun n) h
def ctMay : Nat × (List AV → R) := (49, A1 fun o : Ots => (True, .i (otsMay o)))
theorem ctMay_ok {Ct : List (Nat × (List AV → R))} (h : CtOK Try.prog [] Ct) : CtOK Try.prog [] (ctMay :: Ct) := CtOK_cons (Row1 fun n _ => may_fun n) h

theorem and_le (a b : Nat) : a &&& b ≤ b := Nat.and_le_right
theorem cutS_range {w : Nat} {b : List (BitVec 8)} {m : Int} : ∀ d ∈ cutS w b m, 0 ≤ d ∧ d ≤ 2 ^ w - 1 := by
  intro d hd
  have h1 := List.mem_of_mem_take hd
  simp only [cutAll, List.mem_flatMap, digs, List.mem_map] at h1
  obtain ⟨x, _, k, _, rfl⟩ := h1
  have hp : (2 : Int) ^ w = ((2 ^ w : Nat) : Int) := by simp
  have h2 := Nat.pow_pos (n := w) (show 0 < 2 by omega)
  rw [hp]
  unfold dig
  have := @Nat.and_le_right (x.toNat / 2 ^ (8 - w * (k + 1))) (2 ^ w - 1)
  omega
theorem cutS_len {w : Nat} {b : List (BitVec 8)} {m : Int} (h : 0 ≤ m): ((cutS w b m).length : Int) ≤ m := by
  simp only [cutS, List.length_take]; omega
theorem sumS_range (w : Nat) : ∀ (l : List Int), (∀ d ∈ l, 0 ≤ d ∧ d ≤ 2 ^ w - 1) → 0 ≤ sumS w l ∧ sumS w l ≤ l.length * (2 ^ w - 1)
  | [], _ => by simp [sumS]
  | x :: l, h => by
    have h1 := sumS_range w l fun d hd => h d (List.mem_cons_of_mem _ hd)
    have h2 := h x (List.mem_cons_self ..)
    simp only [sumS, List.map_cons, List.sum_cons, List.length_cons] at h1 ⊢
    have : ((l.length + 1 : Nat) : Int) * (2 ^ w - 1) = l.length * (2 ^ w - 1) + (2 ^ w - 1) := by rw [Int.natCast_add, Int.add_mul]; simp
    omega
theorem sumS_take (w : Nat) (l : List Int) (k : Nat) (h : k < l.length) : sumS w (l.take (k + 1)) = sumS w (l.take k) + (2 ^ w - 1 - l.getD k 0) := by
  rw [List.take_succ_eq_append_getElem h]
  simp only [sumS, List.map_append, List.sum_append, List.map_cons, List.map_nil, List.sum_cons, List.sum_nil]
  simp [List.getD_eq_getElem?_getD, h]

def σdig (o : Ots) (sum : List (BitVec 8)) (l : List Int) (k : Nat) : St :=
  ⟨[(1, Enc.enc sum), (2, .ptr 0 0), (5, .sl 1 0 l.length 1), (6, .i (sumS o.w.toNat (l.take k))), (14, .sl 1 0 l.length 1), (15, .i l.length), (16, .i k)],
   [(0, ⟨[.u32 o.code, .b o.shake, .i o.n, .i o.w, .i o.p, .i o.ls], true⟩), (1, ⟨l.map .i, true⟩)], 2⟩

theorem w_pow {w : Int} (h : wOK w) : 0 ≤ (2 : Int) ^ w.toNat - 1 ∧ (2 : Int) ^ w.toNat - 1 ≤ 255 := by
  rcases h with rfl | rfl | rfl | rfl <;> decide
theorem ls_pow {l : Int} (h : 0 ≤ l ∧ l ≤ 8) : 0 < (2 : Int) ^ l.toNat ∧ (2 : Int) ^ l.toNat ≤ 256 := by
  have h2 : (2 : Int) ^ l.toNat = (((2 : Nat) ^ l.toNat : Nat) : Int) := by simp
  have h1 : (2 : Nat) ^ l.toNat ≤ 2 ^ 8 := Nat.pow_le_pow_right (by omega) (by omega)
  have h3 : 0 < (2 : Nat) ^ l.toNat := Nat.pow_pos (by omega)
  rw [h2]; omega

theorem sumS_bound {w : Int} (hw : wOK w) {l : List Int} (h : ∀ d ∈ l, 0 ≤ d ∧ d ≤ 2 ^ w.toNat - 1) {n : Nat} (hn : l.length ≤ n) : 0 ≤ sumS w.toNat l ∧ sumS w.toNat l ≤ n * 255 := by
  obtain ⟨h1, h2⟩ := sumS_range w.toNat l h
  have h3 : (l.length : Int) * (2 ^ w.toNat - 1) ≤ n * 255 := by
    have := w_pow hw
    exact Int.mul_le_mul (by omega) this.2 this.1 (by omega)
  omega
theorem mul_bound {s q : Int} (hs : 0 ≤ s ∧ s ≤ (265 : Nat) * 255) (hq : 0 < q ∧ q ≤ 256) : 0 ≤ s * q ∧ s * q ≤ 17299200 := by
  have h1 : s * q ≤ 67575 * 256 := Int.mul_le_mul (by omega) hq.2 (by omega) (by omega)
  have h2 := Int.mul_nonneg hs.1 (show 0 ≤ q by omega)
  omega

theorem digits_fun (o : Ots) (sum : List (BitVec 8)) (ho : OtsOK o) (hs : sum.length ≤ 1000000) : Fun Try.prog [] 50 [Enc.enc o, Enc.enc sum] (Enc.ret (digS o sum)) := by
  refine Fun_cc [] mo Try.func50 (by decide) cc50 rs50 Try.ntmps50 (by simp) ?_
  have hct := ctCut_ok (ctU16_ok (ctTop_ok CtOK_nil))
  refine AW_run CtOK_nil 1000 ?_
  have hw := ho.w
  have hp := ho.p
  have hls := ho.ls
  have hw1 : 0 < o.w ∧ o.w ≤ 8 := by rcases hw with h | h | h | h <;> omega
  have hwp := w_pow hw
  have hlp := ls_pow hls
  have hpi : i64ok o.p := by unfold i64ok; omega
  simp (disch := omega) only [go_sem, c50, reduceIte, Nat.reduceAdd, Nat.reduceSub, Nat.reduceMul, Nat.reduceDiv, Nat.reduceMod, Nat.reducePow, Nat.reduceLT, Nat.reduceLeDiff, Nat.reduceBEq, Nat.reduceEqDiff, Nat.reduceAnd, Int.reduceLT, Int.reduceLE, Int.reduceEq, Int.reduceAdd, Int.reduceSub, Int.reduceMul, Int.reduceDiv, Int.reduceMod, Int.reducePow, Int.reduceToNat, Int.reduceNatCast, Int.reduceNeg, BitVec.reduceAdd, BitVec.reduceSub, BitVec.reduceMul, BitVec.reduceUDiv, BitVec.reduceUMod, BitVec.reduceDiv, BitVec.reduceMod, BitVec.reduceLT, BitVec.reduceLE, BitVec.reduceEq, BitVec.reduceToNat, BitVec.reduceToInt, BitVec.reduceOfInt, BitVec.reduceSetWidth, BitVec.reduceAnd, BitVec.reduceOr, BitVec.reduceXOr, BitVec.reduceNot, BitVec.reduceHShiftLeft, BitVec.reduceHShiftRight]
  refine AW_callG [] [(1, 1)] 2 [] false (by simp only [go_sem, reduceIte, Nat.reduceAdd, Nat.reduceSub, Nat.reduceMul, Nat.reduceDiv, Nat.reduceMod, Nat.reducePow, Nat.reduceLT, Nat.reduceLeDiff, Nat.reduceBEq, Nat.reduceEqDiff, Nat.reduceAnd, Int.reduceLT, Int.reduceLE, Int.reduceEq, Int.reduceAdd, Int.reduceSub, Int.reduceMul, Int.reduceDiv, Int.reduceMod, Int.reducePow, Int.reduceToNat, Int.reduceNatCast, Int.reduceNeg, BitVec.reduceAdd, BitVec.reduceSub, BitVec.reduceMul, BitVec.reduceUDiv, BitVec.reduceUMod, BitVec.reduceDiv, BitVec.reduceMod, BitVec.reduceLT, BitVec.reduceLE, BitVec.reduceEq, BitVec.reduceToNat, BitVec.reduceToInt, BitVec.reduceOfInt, BitVec.reduceSetWidth, BitVec.reduceAnd, BitVec.reduceOr, BitVec.reduceXOr, BitVec.reduceNot, BitVec.reduceHShiftLeft, BitVec.reduceHShiftRight]) (by simp only [go_sem, reduceIte, Nat.reduceAdd, Nat.reduceSub, Nat.reduceMul, Nat.reduceDiv, Nat.reduceMod, Nat.reducePow, Nat.reduceLT, Nat.reduceLeDiff, Nat.reduceBEq, Nat.reduceEqDiff, Nat.reduceAnd, Int.reduceLT, Int.reduceLE, Int.reduceEq, Int.reduceAdd, Int.reduceSub, Int.reduceMul, Int.reduceDiv, Int.reduceMod, Int.reducePow, Int.reduceToNat, Int.reduceNatCast, Int.reduceNeg, BitVec.reduceAdd, BitVec.reduceSub, BitVec.reduceMul, BitVec.reduceUDiv, BitVec.reduceUMod, BitVec.reduceDiv, BitVec.reduceMod, BitVec.reduceLT, BitVec.reduceLE, BitVec.reduceEq, BitVec.reduceToNat, BitVec.reduceToInt, BitVec.reduceOfInt, BitVec.reduceSetWidth, BitVec.reduceAnd, BitVec.reduceOr, BitVec.reduceXOr, BitVec.reduceNot, BitVec.reduceHShiftLeft, BitVec.reduceHShiftRight]) (cut_funG o sum o.p hw (by omega) hpi) (by rfl) (.inr rfl) (by simp only [go_sem, reduceIte, Nat.reduceAdd, Nat.reduceSub, Nat.reduceMul, Nat.reduceDiv, Nat.reduceMod, Nat.reducePow, Nat.reduceLT, Nat.reduceLeDiff, Nat.reduceBEq, Nat.reduceEqDiff, Nat.reduceAnd, Int.reduceLT, Int.reduceLE, Int.reduceEq, Int.reduceAdd, Int.reduceSub, Int.reduceMul, Int.reduceDiv, Int.reduceMod, Int.reducePow, Int.reduceToNat, Int.reduceNatCast, Int.reduceNeg, BitVec.reduceAdd, BitVec.reduceSub, BitVec.reduceMul, BitVec.reduceUDiv, BitVec.reduceUMod, BitVec.reduceDiv, BitVec.reduceMod, BitVec.reduceLT, BitVec.reduceLE, BitVec.reduceEq, BitVec.reduceToNat, BitVec.reduceToInt, BitVec.reduceOfInt, BitVec.reduceSetWidth, BitVec.reduceAnd, BitVec.reduceOr, BitVec.reduceXOr, BitVec.reduceNot, BitVec.reduceHShiftLeft, BitVec.reduceHShiftRight]) (by rfl) (by simp only [go_sem, reduceIte, Nat.reduceAdd, Nat.reduceSub, Nat.reduceMul, Nat.reduceDiv, Nat.reduceMod, Nat.reducePow, Nat.reduceLT, Nat.reduceLeDiff, Nat.reduceBEq, Nat.reduceEqDiff, Nat.reduceAnd, Int.reduceLT, Int.reduceLE, Int.reduceEq, Int.reduceAdd, Int.reduceSub, Int.reduceMul, Int.reduceDiv, Int.reduceMod, Int.reducePow, Int.reduceToNat, Int.reduceNatCast, Int.reduceNeg, BitVec.reduceAdd, BitVec.reduceSub, BitVec.reduceMul, BitVec.reduceUDiv, BitVec.reduceUMod, BitVec.reduceDiv, BitVec.reduceMod, BitVec.reduceLT, BitVec.reduceLE, BitVec.reduceEq, BitVec.reduceToNat, BitVec.reduceToInt, BitVec.reduceOfInt, BitVec.reduceSetWidth, BitVec.reduceAnd, BitVec.reduceOr, BitVec.reduceXOr, BitVec.reduceNot, BitVec.reduceHShiftLeft, BitVec.reduceHShiftRight]) (by simp only [go_sem, reduceIte, Nat.reduceAdd, Nat.reduceSub, Nat.reduceMul, Nat.reduceDiv, Nat.reduceMod, Nat.reducePow, Nat.reduceLT, Nat.reduceLeDiff, Nat.reduceBEq, Nat.reduceEqDiff, Nat.reduceAnd, Int.reduceLT, Int.reduceLE, Int.reduceEq, Int.reduceAdd, Int.reduceSub, Int.reduceMul, Int.reduceDiv, Int.reduceMod, Int.reducePow, Int.reduceToNat, Int.reduceNatCast, Int.reduceNeg, BitVec.reduceAdd, BitVec.reduceSub, BitVec.reduceMul, BitVec.reduceUDiv, BitVec.reduceUMod, BitVec.reduceDiv, BitVec.reduceMod, BitVec.reduceLT, BitVec.reduceLE, BitVec.reduceEq, BitVec.reduceToNat, BitVec.reduceToInt, BitVec.reduceOfInt, BitVec.reduceSetWidth, BitVec.reduceAnd, BitVec.reduceOr, BitVec.reduceXOr, BitVec.reduceNot, BitVec.reduceHShiftLeft, BitVec.reduceHShiftRight]) (by simp only [go_sem, reduceIte, Nat.reduceAdd, Nat.reduceSub, Nat.reduceMul, Nat.reduceDiv, Nat.reduceMod, Nat.reducePow, Nat.reduceLT, Nat.reduceLeDiff, Nat.reduceBEq, Nat.reduceEqDiff, Nat.reduceAnd, Int.reduceLT, Int.reduceLE, Int.reduceEq, Int.reduceAdd, Int.reduceSub, Int.reduceMul, Int.reduceDiv, Int.reduceMod, Int.reducePow, Int.reduceToNat, Int.reduceNatCast, Int.reduceNeg, BitVec.reduceAdd, BitVec.reduceSub, BitVec.reduceMul, BitVec.reduceUDiv, BitVec.reduceUMod, BitVec.reduceDiv, BitVec.reduceMod, BitVec.reduceLT, BitVec.reduceLE, BitVec.reduceEq, BitVec.reduceToNat, BitVec.reduceToInt, BitVec.reduceOfInt, BitVec.reduceSetWidth, BitVec.reduceAnd, BitVec.reduceOr, BitVec.reduceXOr, BitVec.reduceNot, BitVec.reduceHShiftLeft, BitVec.reduceHShiftRight]) (by simp only [go_sem, reduceIte, Nat.reduceAdd, Nat.reduceSub, Nat.reduceMul, Nat.reduceDiv, Nat.reduceMod, Nat.reducePow, Nat.reduceLT, Nat.reduceLeDiff, Nat.reduceBEq, Nat.reduceEqDiff, Nat.reduceAnd, Int.reduceLT, Int.reduceLE, Int.reduceEq, Int.reduceAdd, Int.reduceSub, Int.reduceMul, Int.reduceDiv, Int.reduceMod, Int.reducePow, Int.reduceToNat, Int.reduceNatCast, Int.reduceNeg, BitVec.reduceAdd, BitVec.reduceSub, BitVec.reduceMul, BitVec.reduceUDiv, BitVec.reduceUMod, BitVec.reduceDiv, BitVec.reduceMod, BitVec.reduceLT, BitVec.reduceLE, BitVec.reduceEq, BitVec.reduceToNat, BitVec.reduceToInt, BitVec.reduceOfInt, BitVec.reduceSetWidth, BitVec.reduceAnd, BitVec.reduceOr, BitVec.reduceXOr, BitVec.reduceNot, BitVec.reduceHShiftLeft, BitVec.reduceHShiftRight]) ?_
  refine AW_ct [ctCut, ctU16, ctTop] (AW_run hct 1000 ?_)
  simp (disch := omega) only [go_sem, ctCut, ctU16, ctTop, hw, hpi, reduceIte, Nat.reduceAdd, Nat.reduceSub, Nat.reduceMul, Nat.reduceDiv, Nat.reduceMod, Nat.reducePow, Nat.reduceLT, Nat.reduceLeDiff, Nat.reduceBEq, Nat.reduceEqDiff, Nat.reduceAnd, Int.reduceLT, Int.reduceLE, Int.reduceEq, Int.reduceAdd, Int.reduceSub, Int.reduceMul, Int.reduceDiv, Int.reduceMod, Int.reducePow, Int.reduceToNat, Int.reduceNatCast, Int.reduceNeg, BitVec.reduceAdd, BitVec.reduceSub, BitVec.reduceMul, BitVec.reduceUDiv, BitVec.reduceUMod, BitVec.reduceDiv, BitVec.reduceMod, BitVec.reduceLT, BitVec.reduceLE, BitVec.reduceEq, BitVec.reduceToNat, BitVec.reduceToInt, BitVec.reduceOfInt, BitVec.reduceSetWidth, BitVec.reduceAnd, BitVec.reduceOr, BitVec.reduceXOr, BitVec.reduceNot, BitVec.reduceHShiftLeft, BitVec.reduceHShiftRight]
  have hl := @cutS_range o.w.toNat sum o.p
  have hn := @cutS_len o.w.toNat sum o.p (by omega)
  refine AW_loop (σdig o sum (cutS o.w.toNat sum o.p)) (fun i => i ≤ (cutS o.w.toNat sum o.p).length) (fun i => (cutS o.w.toNat sum o.p).length - i) 0 (Nat.zero_le _) (Wk_p [] ?_) fun i hi => ?_
  · simp only [go_sem, σdig, reduceIte, Nat.reduceAdd, Nat.reduceSub, Nat.reduceMul, Nat.reduceDiv, Nat.reduceMod, Nat.reducePow, Nat.reduceLT, Nat.reduceLeDiff, Nat.reduceBEq, Nat.reduceEqDiff, Nat.reduceAnd, Int.reduceLT, Int.reduceLE, Int.reduceEq, Int.reduceAdd, Int.reduceSub, Int.reduceMul, Int.reduceDiv, Int.reduceMod, Int.reducePow, Int.reduceToNat, Int.reduceNatCast, Int.reduceNeg, BitVec.reduceAdd, BitVec.reduceSub, BitVec.reduceMul, BitVec.reduceUDiv, BitVec.reduceUMod, BitVec.reduceDiv, BitVec.reduceMod, BitVec.reduceLT, BitVec.reduceLE, BitVec.reduceEq, BitVec.reduceToNat, BitVec.reduceToInt, BitVec.reduceOfInt, BitVec.reduceSetWidth, BitVec.reduceAnd, BitVec.reduceOr, BitVec.reduceXOr, BitVec.reduceNot, BitVec.reduceHShiftLeft, BitVec.reduceHShiftRight]
    simp [sumS]
  · refine AW_run hct 1000 ?_
    simp (disch := omega) only [go_sem, σdig, reduceIte, Nat.reduceAdd, Nat.reduceSub, Nat.reduceMul, Nat.reduceDiv, Nat.reduceMod, Nat.reducePow, Nat.reduceLT, Nat.reduceLeDiff, Nat.reduceBEq, Nat.reduceEqDiff, Nat.reduceAnd, Int.reduceLT, Int.reduceLE, Int.reduceEq, Int.reduceAdd, Int.reduceSub, Int.reduceMul, Int.reduceDiv, Int.reduceMod, Int.reducePow, Int.reduceToNat, Int.reduceNatCast, Int.reduceNeg, BitVec.reduceAdd, BitVec.reduceSub, BitVec.reduceMul, BitVec.reduceUDiv, BitVec.reduceUMod, BitVec.reduceDiv, BitVec.reduceMod, BitVec.reduceLT, BitVec.reduceLE, BitVec.reduceEq, BitVec.reduceToNat, BitVec.reduceToInt, BitVec.reduceOfInt, BitVec.reduceSetWidth, BitVec.reduceAnd, BitVec.reduceOr, BitVec.reduceXOr, BitVec.reduceNot, BitVec.reduceHShiftLeft, BitVec.reduceHShiftRight]
    have hr := sumS_bound hw (l := (cutS o.w.toNat sum o.p).take i) (fun d hd => hl d (List.mem_of_mem_take hd)) (n := 265) (by rw [List.length_take]; omega)
    have hm := mul_bound hr hlp
    refine run_br (fun hb => ?_) (fun hb => ?_)
    · have hlt : i < (cutS o.w.toNat sum o.p).length := by simpa using hb
      have hd := hl ((cutS o.w.toNat sum o.p).getD i 0) (by simp [List.getD_eq_getElem?_getD, hlt])
      simp (disch := omega) only [go_sem, ctCut, ctU16, ctTop, hw, hpi, reduceIte, Nat.reduceAdd, Nat.reduceSub, Nat.reduceMul, Nat.reduceDiv, Nat.reduceMod, Nat.reducePow, Nat.reduceLT, Nat.reduceLeDiff, Nat.reduceBEq, Nat.reduceEqDiff, Nat.reduceAnd, Int.reduceLT, Int.reduceLE, Int.reduceEq, Int.reduceAdd, Int.reduceSub, Int.reduceMul, Int.reduceDiv, Int.reduceMod, Int.reducePow, Int.reduceToNat, Int.reduceNatCast, Int.reduceNeg, BitVec.reduceAdd, BitVec.reduceSub, BitVec.reduceMul, BitVec.reduceUDiv, BitVec.reduceUMod, BitVec.reduceDiv, BitVec.reduceMod, BitVec.reduceLT, BitVec.reduceLE, BitVec.reduceEq, BitVec.reduceToNat, BitVec.reduceToInt, BitVec.reduceOfInt, BitVec.reduceSetWidth, BitVec.reduceAnd, BitVec.reduceOr, BitVec.reduceXOr, BitVec.reduceNot, BitVec.reduceHShiftLeft, BitVec.reduceHShiftRight]
      refine ⟨i + 1, by omega, Wk_p [] ?_, by omega⟩
      simp only [go_sem, reduceIte, Nat.reduceAdd, Nat.reduceSub, Nat.reduceMul, Nat.reduceDiv, Nat.reduceMod, Nat.reducePow, Nat.reduceLT, Nat.reduceLeDiff, Nat.reduceBEq, Nat.reduceEqDiff, Nat.reduceAnd, Int.reduceLT, Int.reduceLE, Int.reduceEq, Int.reduceAdd, Int.reduceSub, Int.reduceMul, Int.reduceDiv, Int.reduceMod, Int.reducePow, Int.reduceToNat, Int.reduceNatCast, Int.reduceNeg, BitVec.reduceAdd, BitVec.reduceSub, BitVec.reduceMul, BitVec.reduceUDiv, BitVec.reduceUMod, BitVec.reduceDiv, BitVec.reduceMod, BitVec.reduceLT, BitVec.reduceLE, BitVec.reduceEq, BitVec.reduceToNat, BitVec.reduceToInt, BitVec.reduceOfInt, BitVec.reduceSetWidth, BitVec.reduceAnd, BitVec.reduceOr, BitVec.reduceXOr, BitVec.reduceNot, BitVec.reduceHShiftLeft, BitVec.reduceHShiftRight]
      rw [sumS_take _ _ _ hlt]
      simp
    · have hge : i = (cutS o.w.toNat sum o.p).length := by have : ¬ i < (cutS o.w.toNat sum o.p).length := by simpa using hb
                                                           omega
      have hcl := hn
      subst hge
      rw [List.take_length] at hr hm
      have hpj : i64ok (o.p - ((cutS o.w.toNat sum o.p).length : Int)) := by unfold i64ok; omega
      have hc2 := @cutS_len o.w.toNat (bigL (BitVec.setWidth 64 (BitVec.ofInt 16 (sumS o.w.toNat (cutS o.w.toNat sum o.p) * 2 ^ o.ls.toNat))) 2) (o.p - ((cutS o.w.toNat sum o.p).length : Int)) (by omega)
      simp (disch := omega) only [go_sem, ctCut, ctU16, ctTop, hw, hpi, hpj, bigL_len, reduceIte, Nat.reduceAdd, Nat.reduceSub, Nat.reduceMul, Nat.reduceDiv, Nat.reduceMod, Nat.reducePow, Nat.reduceLT, Nat.reduceLeDiff, Nat.reduceBEq, Nat.reduceEqDiff, Nat.reduceAnd, Int.reduceLT, Int.reduceLE, Int.reduceEq, Int.reduceAdd, Int.reduceSub, Int.reduceMul, Int.reduceDiv, Int.reduceMod, Int.reducePow, Int.reduceToNat, Int.reduceNatCast, Int.reduceNeg, BitVec.reduceAdd, BitVec.reduceSub, BitVec.reduceMul, BitVec.reduceUDiv, BitVec.reduceUMod, BitVec.reduceDiv, BitVec.reduceMod, BitVec.reduceLT, BitVec.reduceLE, BitVec.reduceEq, BitVec.reduceToNat, BitVec.reduceToInt, BitVec.reduceOfInt, BitVec.reduceSetWidth, BitVec.reduceAnd, BitVec.reduceOr, BitVec.reduceXOr, BitVec.reduceNot, BitVec.reduceHShiftLeft, BitVec.reduceHShiftRight]
      simp [digS]
      rw [List.take_of_length_le (by simp)]
def ctDigits : Nat × (List AV → R) := (50, A2 fun (o : Ots) (b : List (BitVec 8)) => (OtsOK o ∧ b.length ≤ 1000000, Enc.ret (digS o b)))
theorem ctDigits_ok {Ct : List (Nat × (List AV → R))} (h : CtOK Try.prog [] Ct) : CtOK Try.prog [] (ctDigits :: Ct) := CtOK_cons (Row2 fun o b h => digits_fun o b h.1 h.2) h

def DigR (o : Ots) (sum : List (BitVec 8)) : AV := if otsT o.code = some o then if (sum.length : Int) = o.n then .tup [Enc.ret (digS o sum), .i 0] else .tup [.ros true 0 [], .i 1] else .tup [.ros true 0 [], .i 60]

theorem Digits_fun (o : Ots) (sum : List (BitVec 8)) (hs : sum.length ≤ 140737488351232) : Fun Try.prog [] 17 [Enc.enc o, Enc.enc sum] (DigR o sum) := by
  refine Fun_cc [ctMay, ctDigits] mo Try.func17 (by decide) cc17 rs17 Try.ntmps17 (by simp) ?_
  have hct := ctMay_ok (ctDigits_ok CtOK_nil)
  refine AW_run hct 1000 ?_
  by_cases h : otsT o.code = some o
  · have ho := otsT_ok h
    have hn := ho.n
    by_cases h2 : (sum.length : Int) = o.n
    · simp (disch := omega) only [go_sem, c17, ctMay, ctDigits, otsMay, h, h2, ho, reduceIte, Nat.reduceAdd, Nat.reduceSub, Nat.reduceMul, Nat.reduceDiv, Nat.reduceMod, Nat.reducePow, Nat.reduceLT, Nat.reduceLeDiff, Nat.reduceBEq, Nat.reduceEqDiff, Nat.reduceAnd, Int.reduceLT, Int.reduceLE, Int.reduceEq, Int.reduceAdd, Int.reduceSub, Int.reduceMul, Int.reduceDiv, Int.reduceMod, Int.reducePow, Int.reduceToNat, Int.reduceNatCast, Int.reduceNeg, BitVec.reduceAdd, BitVec.reduceSub, BitVec.reduceMul, BitVec.reduceUDiv, BitVec.reduceUMod, BitVec.reduceDiv, BitVec.reduceMod, BitVec.reduceLT, BitVec.reduceLE, BitVec.reduceEq, BitVec.reduceToNat, BitVec.reduceToInt, BitVec.reduceOfInt, BitVec.reduceSetWidth, BitVec.reduceAnd, BitVec.reduceOr, BitVec.reduceXOr, BitVec.reduceNot, BitVec.reduceHShiftLeft, BitVec.reduceHShiftRight]
      simp [DigR, h, h2, ret_l, ret_i]
    · simp (disch := omega) only [go_sem, c17, ctMay, ctDigits, otsMay, h, h2, ho, reduceIte, Nat.reduceAdd, Nat.reduceSub, Nat.reduceMul, Nat.reduceDiv, Nat.reduceMod, Nat.reducePow, Nat.reduceLT, Nat.reduceLeDiff, Nat.reduceBEq, Nat.reduceEqDiff, Nat.reduceAnd, Int.reduceLT, Int.reduceLE, Int.reduceEq, Int.reduceAdd, Int.reduceSub, Int.reduceMul, Int.reduceDiv, Int.reduceMod, Int.reducePow, Int.reduceToNat, Int.reduceNatCast, Int.reduceNeg, BitVec.reduceAdd, BitVec.reduceSub, BitVec.reduceMul, BitVec.reduceUDiv, BitVec.reduceUMod, BitVec.reduceDiv, BitVec.reduceMod, BitVec.reduceLT, BitVec.reduceLE, BitVec.reduceEq, BitVec.reduceToNat, BitVec.reduceToInt, BitVec.reduceOfInt, BitVec.reduceSetWidth, BitVec.reduceAnd, BitVec.reduceOr, BitVec.reduceXOr, BitVec.reduceNot, BitVec.reduceHShiftLeft, BitVec.reduceHShiftRight]
      simp [DigR, h, h2]
  · simp (disch := omega) only [go_sem, c17, ctMay, ctDigits, otsMay, h, reduceIte, Nat.reduceAdd, Nat.reduceSub, Nat.reduceMul, Nat.reduceDiv, Nat.reduceMod, Nat.reducePow, Nat.reduceLT, Nat.reduceLeDiff, Nat.reduceBEq, Nat.reduceEqDiff, Nat.reduceAnd, Int.reduceLT, Int.reduceLE, Int.reduceEq, Int.reduceAdd, Int.reduceSub, Int.reduceMul, Int.reduceDiv, Int.reduceMod, Int.reducePow, Int.reduceToNat, Int.reduceNatCast, Int.reduceNeg, BitVec.reduceAdd, BitVec.reduceSub, BitVec.reduceMul, BitVec.reduceUDiv, BitVec.reduceUMod, BitVec.reduceDiv, BitVec.reduceMod, BitVec.reduceLT, BitVec.reduceLE, BitVec.reduceEq, BitVec.reduceToNat, BitVec.reduceToInt, BitVec.reduceOfInt, BitVec.reduceSetWidth, BitVec.reduceAnd, BitVec.reduceOr, BitVec.reduceXOr, BitVec.reduceNot, BitVec.reduceHShiftLeft, BitVec.reduceHShiftRight]
    simp [DigR, h]
end Go.Lv
