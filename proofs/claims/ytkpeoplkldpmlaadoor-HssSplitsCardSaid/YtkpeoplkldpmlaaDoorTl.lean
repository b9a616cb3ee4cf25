/- A part of the proof. -/
import Derived.Test.YtkpeoplkldpmlaaDoorGT
import Derived.Test.YtkpeoplkldpmlaaDoorGK
import Derived.Test.YtkpeoplkldpmlaaDoorKpliverylaw07
set_option linter.all false
namespace Go.Lv
open Go Go.Proofs
set_option linter.unusedSimpArgs false
set_option maxRecDepth 100000

def rdigC (o : Ots) (sum : List (BitVec 8)) : Int := sumS o.w.toNat (pcAll o.w.toNat sum) * 2 ^ o.ls.toNat
def rdigS (o : Ots) (sum : List (BitVec 8)) : List Int := (pcAll o.w.toNat sum ++ pcAll o.w.toNat (bigL (BitVec.ofInt 64 (rdigC o sum)) 2)).take o.p.toNat

theorem pcs_eq {w : Int} (hw : wOK w) (x : BitVec 8) : pcs (2 ^ w.toNat) x.toNat (8 / w.toNat) = digs w.toNat x (8 / w.toNat) := by
  have h : ∀ w : Fin 9, w.val = 1 ∨ w.val = 2 ∨ w.val = 4 ∨ w.val = 8 → ∀ x : Fin 256, pcs (2 ^ w.val) x.val (8 / w.val) = digs w.val (BitVec.ofFin (w := 8) x) (8 / w.val) := by decide +kernel
  have hw2 : w.toNat = 1 ∨ w.toNat = 2 ∨ w.toNat = 4 ∨ w.toNat = 8 := by unfold wOK at hw; omega
  have := h ⟨w.toNat, by omega⟩ hw2 x.toFin
  simpa using this
theorem pcAll_eq {w : Int} (hw : wOK w) (b : List (BitVec 8)) : pcAll w.toNat b = cutAll w.toNat b := by
  simp only [pcAll, cutAll, pcs_eq hw]

theorem pcAll_rg {w : Int} (hw : wOK w) {b : List (BitVec 8)} : ∀ d ∈ pcAll w.toNat b, 0 ≤ d ∧ d ≤ 2 ^ w.toNat - 1 := by
  rw [pcAll_eq hw]
  intro d hd
  refine cutS_range (w := w.toNat) (b := b) (m := ((cutAll w.toNat b).length : Int)) d ?_
  simp [cutS, hd]

def σrd (o : Ots) (l : List Int) (k : Nat) : St :=
  ⟨[(2, .ptr 0 0), (5, .sl 1 0 l.length 1), (6, .i (sumS o.w.toNat (l.take k))), (13, .sl 1 0 l.length 1), (14, .i l.length), (15, .i k)],
   [(0, ⟨[.u32 o.code, .b o.shake, .i o.n, .i o.w, .i o.p, .i o.ls], true⟩), (1, ⟨l.map .i, true⟩)], 2⟩
def σrd2 (o : Ots) (l : List Int) (k : Nat) : St :=
  ⟨[(2, .ptr 0 0), (5, .sl 1 0 l.length 1), (6, .i (sumS o.w.toNat l * 2 ^ k)), (27, .i o.ls), (28, .i k)],
   [(0, ⟨[.u32 o.code, .b o.shake, .i o.n, .i o.w, .i o.p, .i o.ls], true⟩), (1, ⟨l.map .i, true⟩)], 2⟩

theorem rDigits_fun (o : Ots) (sum : List (BitVec 8)) (ho : OtsOK o) (hs : (sum.length : Int) = o.n) : Fun Tryd.prog Gs 191 [Enc.enc o, Enc.enc sum] (Enc.ret (rdigS o sum)) := by
  have hp2 := ho.u2
  have hw := ho.w
  have hp := ho.p
  have hls := ho.ls
  have hn := ho.n
  have hw1 : 0 < o.w ∧ o.w ≤ 8 := by rcases hw with h | h | h | h <;> omega
  have hwp := w_pow hw
  refine Fun_cc [] mo Tryd.func191 (by decide) cc191 rs191 Tryd.ntmps191 (by simp) ?_
  have hct := ctPieces_ok (ctRBig_ok (ctMost_ok CtOK_nil))
  refine AW_run CtOK_nil 1000 ?_
  simp (maxSteps := 10000000) (disch := omega) only [go_sem, c191, reduceIte, seval, -BitVec.isValue, -BitVec.reduceOfNat, -List.reduceReplicate]
  refine AW_callG [] [(0, 1)] 2 [] false (by simp only [go_sem, reduceIte, seval, -BitVec.isValue, -BitVec.reduceOfNat, -List.reduceReplicate]) (by simp only [go_sem, reduceIte, seval, -BitVec.isValue, -BitVec.reduceOfNat, -List.reduceReplicate]) (pieces_funG sum o.w hw (by omega)) (by rfl) (.inr rfl) (by simp only [go_sem, reduceIte, seval, -BitVec.isValue, -BitVec.reduceOfNat, -List.reduceReplicate]) (by rfl) (by simp only [go_sem, reduceIte, seval, -BitVec.isValue, -BitVec.reduceOfNat, -List.reduceReplicate]) (by simp only [go_sem, reduceIte, seval, -BitVec.isValue, -BitVec.reduceOfNat, -List.reduceReplicate]) (by simp only [go_sem, reduceIte, seval, -BitVec.isValue, -BitVec.reduceOfNat, -List.reduceReplicate]) (by simp only [go_sem, reduceIte, seval, -BitVec.isValue, -BitVec.reduceOfNat, -List.reduceReplicate]) ?_
  refine AW_ct [ctPieces, ctRBig, ctMost] (AW_run hct 1000 ?_)
  simp (maxSteps := 10000000) (disch := omega) only [go_sem, ctPieces, ctRBig, ctMost, reduceIte, seval, -BitVec.isValue, -BitVec.reduceOfNat, -List.reduceReplicate]
  have hl := @pcAll_rg o.w hw sum
  have hlen := pcAll_len o.w.toNat sum
  have hlen2 : (pcAll o.w.toNat sum).length ≤ 256 := by rw [hlen]; exact Nat.mul_le_mul (show sum.length ≤ 32 by omega) (Nat.div_le_self 8 _)
  refine AW_loop (σrd o (pcAll o.w.toNat sum)) (fun i => i ≤ (pcAll o.w.toNat sum).length) (fun i => (pcAll o.w.toNat sum).length - i) 0 (Nat.zero_le _) (Wk_p [] ?_) fun i hi => ?_
  · simp only [go_sem, σrd, reduceIte, seval, -BitVec.isValue, -BitVec.reduceOfNat, -List.reduceReplicate]
    simp [sumS]
  · refine AW_run hct 1000 ?_
    have hr := sumS_bound hw (l := (pcAll o.w.toNat sum).take i) (fun d hd => hl d (List.mem_of_mem_take hd)) (n := 256) (by rw [List.length_take]; omega)
    simp (maxSteps := 10000000) (disch := omega) only [go_sem, σrd, reduceIte, seval, -BitVec.isValue, -BitVec.reduceOfNat, -List.reduceReplicate]
    refine run_br (fun hb => ?_) (fun hb => ?_)
    · have hlt : i < (pcAll o.w.toNat sum).length := by have := of_decide_eq_true hb; omega
      have hd := hl ((pcAll o.w.toNat sum).getD i 0) (by simp [List.getD_eq_getElem?_getD, hlt])
      simp (maxSteps := 10000000) (disch := omega) only [go_sem, ctPieces, ctRBig, ctMost, reduceIte, seval, -BitVec.isValue, -BitVec.reduceOfNat, -List.reduceReplicate]
      refine ⟨i + 1, by omega, Wk_p [] ?_, by omega⟩
      simp only [go_sem, reduceIte, seval, -BitVec.isValue, -BitVec.reduceOfNat, -List.reduceReplicate]
      rw [sumS_take _ _ _ hlt]
      simp
    · have hge : i = (pcAll o.w.toNat sum).length := by have := of_decide_eq_false hb; omega
      subst hge
      rw [List.take_length] at hr
      simp (maxSteps := 10000000) (disch := omega) only [go_sem, ctPieces, ctRBig, ctMost, List.take_length, reduceIte, seval, -BitVec.isValue, -BitVec.reduceOfNat, -List.reduceReplicate]
      refine AW_loop (σrd2 o (pcAll o.w.toNat sum)) (fun i => i ≤ o.ls) (fun i => o.ls.toNat - i) 0 (by omega) (Wk_p [] ?_) fun i hi => ?_
      · simp only [go_sem, σrd2, List.take_length, reduceIte, seval, -BitVec.isValue, -BitVec.reduceOfNat, -List.reduceReplicate]
        simp
      · refine AW_run hct 7 ?_
        have hip := ls_pow (l := (i : Int)) (by omega)
        simp only [Int.toNat_natCast] at hip
        have hm : 0 ≤ sumS o.w.toNat (pcAll o.w.toNat sum) * 2 ^ i ∧ sumS o.w.toNat (pcAll o.w.toNat sum) * 2 ^ i ≤ 17299200 := mul_bound (by omega) hip
        simp (maxSteps := 10000000) (disch := omega) only [go_sem, σrd2, reduceIte, seval, -BitVec.isValue, -BitVec.reduceOfNat, -List.reduceReplicate]
        refine run_br (fun hd => ?_) (fun hd => ?_)
        · have hdl : (i : Int) < o.ls := of_decide_eq_true hd
          simp (maxSteps := 10000000) (disch := omega) only [go_sem, reduceIte, seval, -BitVec.isValue, -BitVec.reduceOfNat, -List.reduceReplicate]
          refine AW_run hct 1000 ?_
          simp (maxSteps := 10000000) (disch := omega) only [go_sem, reduceIte, seval, -BitVec.isValue, -BitVec.reduceOfNat, -List.reduceReplicate]
          refine ⟨i + 1, by omega, Wk_p [] ?_, by omega⟩
          simp only [go_sem, reduceIte, seval, -BitVec.isValue, -BitVec.reduceOfNat, -List.reduceReplicate]
          simp [Int.pow_succ, Int.mul_assoc]
        · have hde : i = o.ls.toNat := by have := of_decide_eq_false hd; omega
          subst hde
          have hb2 : (pcAll o.w.toNat (bigL (BitVec.ofInt 64 (sumS o.w.toNat (pcAll o.w.toNat sum) * 2 ^ o.ls.toNat)) 2)).length = 2 * (8 / o.w.toNat) := by rw [pcAll_len, bigL_len]
          have hpp : o.p ≤ sum.length * (8 / o.w.toNat) + 2 * (8 / o.w.toNat) := by
            rcases hw with h | h | h | h <;> rw [h] at hp2 ⊢ <;> simp only [Int.toNat_one, Int.reduceToNat, Nat.reduceDiv] <;> omega
          have hpq : o.p ≤ (((pcAll o.w.toNat sum).length + (pcAll o.w.toNat (bigL (BitVec.ofInt 64 (sumS o.w.toNat (pcAll o.w.toNat sum) * 2 ^ o.ls.toNat)) 2)).length : Nat) : Int) := by
            rw [hlen, hb2]; simpa using hpp
          have h88 := Nat.div_le_self 8 o.w.toNat
          simp (maxSteps := 10000000) (disch := omega) only [go_sem, ctPieces, ctRBig, ctMost, bigL_len, hw, reduceIte, seval, -BitVec.isValue, -BitVec.reduceOfNat, -List.reduceReplicate]
          refine AW_ct [ctPieces, ctRBig, ctMost] (AW_drr hct 1000 [(0, ⟨[.u32 o.code, .b o.shake, .i o.n, .i o.w, .i o.p, .i o.ls], true⟩)] rfl (by simp only [go_sem, reduceIte, seval, -BitVec.isValue, -BitVec.reduceOfNat, -List.reduceReplicate]) ?_)
          simp (maxSteps := 10000000) (disch := omega) only [go_sem, ctPieces, ctRBig, ctMost, bigL_len, hw, List.take_succ_cons, List.take_zero, List.drop_succ_cons, List.drop_zero, reduceIte, seval, -BitVec.isValue, -BitVec.reduceOfNat, -List.reduceReplicate]
          simp [rdigS, rdigC]
          omega

theorem bigL2 (c : Int) : bigL ((BitVec.ofInt 16 c).setWidth 64) 2 = bigL (BitVec.ofInt 64 c) 2 := by
  have e : BitVec.ofInt 16 c = (BitVec.ofInt 64 c).setWidth 16 := by
    apply BitVec.eq_of_toNat_eq
    simp only [BitVec.toNat_ofInt, BitVec.toNat_setWidth]
    omega
  rw [e]
  generalize BitVec.ofInt 64 c = x
  have h : ∀ i, i < 2 → byteAt ((x.setWidth 16).setWidth 64) i = byteAt x i := by
    intro i hi
    apply BitVec.eq_of_toNat_eq
    simp only [byteAt, BitVec.toNat_setWidth, BitVec.toNat_ushiftRight, Nat.shiftRight_eq_div_pow]
    have := x.isLt
    rcases (by omega : i = 0 ∨ i = 1) with rfl | rfl <;> omega
  simp only [bigL, List.range_succ, List.range_zero, List.nil_append, List.cons_append, List.map_cons, List.map_nil]
  rw [h _ (by omega), h _ (by omega)]

/-- the two answers are one -/
theorem dig_law (o : Ots) (sum : List (BitVec 8)) (ho : OtsOK o) (hs : (sum.length : Int) = o.n) : rdigS o sum = digS o sum := by
  have hw := ho.w
  have hw1 : 0 < o.w ∧ o.w ≤ 8 := by rcases hw with h | h | h | h <;> omega
  have hlen := pcAll_len o.w.toNat sum
  rw [pcAll_eq hw] at hlen
  have hle : (cutAll o.w.toNat sum).length ≤ o.p.toNat := by
    rw [hlen]
    have hu := ho.u
    have h8 := (bits8 hw).1
    rcases hw with h | h | h | h <;> rw [h] at hu ⊢ <;> simp only [Int.toNat_one, Int.reduceToNat, Nat.reduceDiv] <;> omega
  have e1 : cutS o.w.toNat sum o.p = cutAll o.w.toNat sum := List.take_of_length_le hle
  rw [rdigS, digS, rdigC, pcAll_eq hw, pcAll_eq hw, e1, bigL2, List.take_append, List.take_of_length_le hle, cutS]
  congr 2
  omega

theorem digS_len (o : Ots) (sum : List (BitVec 8)) (ho : OtsOK o) (hs : (sum.length : Int) = o.n) : ((digS o sum).length : Int) = o.p := by
  rw [← dig_law o sum ho hs, rdigS, List.length_take, List.length_append, pcAll_len, pcAll_len, bigL_len]
  have hp := ho.p
  have hp2 := ho.u2
  rcases ho.w with h | h | h | h <;> rw [h] at hp2 ⊢ <;> simp only [Int.toNat_one, Int.reduceToNat, Nat.reduceDiv] <;> omega
def ctRDigits : Nat × (List AV → R) := (191, A2 fun (o : Ots) (b : List (BitVec 8)) => (OtsOK o ∧ (b.length : Int) = o.n, Enc.ret (digS o b)))
theorem ctRDigits_ok {Ct : List (Nat × (List AV → R))} (h : CtOK Tryd.prog Gs Ct) : CtOK Tryd.prog Gs (ctRDigits :: Ct) := CtOK_cons (Row2 fun o b h => dig_law o b h.1 h.2 ▸ rDigits_fun o b h.1 h.2) h
def ctLDigits : Nat × (List AV → R) := (101, A2 fun (o : Ots) (b : List (BitVec 8)) => (b.length ≤ 140737488351232, DigR o b))
theorem ctLDigits_ok {Ct : List (Nat × (List AV → R))} (h : CtOK Tryd.prog Gs Ct) : CtOK Tryd.prog Gs (ctLDigits :: Ct) := CtOK_cons (Row2 fun o b h => Digits_fun o b h) h
def ctRMay : Nat × (List AV → R) := (38, A2 fun (o : Ots) (b : List (BitVec 8)) => (True, .i (rMay o b)))
theorem ctRMay_ok {Ct : List (Nat × (List AV → R))} (h : CtOK Tryd.prog Gs Ct) : CtOK Tryd.prog Gs (ctRMay :: Ct) := CtOK_cons (Row2 fun o b _ => rMay_fun o b) h

/-- the law's examples -/
theorem live_ex : let l := digS ⟨2, false, 32, 2, 133, 6⟩ (List.replicate 32 0); l.length = 133 ∧ l.getD 127 0 = 0 ∧ l.getD 128 0 = 1 ∧ l.getD 129 0 = 2 ∧ l.getD 132 0 = 0 := by decide +kernel
theorem live_fun : Fun Tryd.prog Gs 26 [] (.b true) := by
  refine Fun_cc [mark 11, ctROts, ctLDigits] mo Tryd.func26 (by decide) cc26 rs26 Tryd.ntmps26 (by simp) ?_
  have hct := mark_ok 11 (ctROts_ok (ctLDigits_ok CtOK_nil))
  refine AW_run hct 1000 ?_
  obtain ⟨l1, l2, l3, l4, l5⟩ := live_ex
  have e : otsT 2 = some ⟨2, false, 32, 2, 133, 6⟩ := rfl
  have e5 : List.take 32 (List.replicate 32 (0 : BitVec 8)) = List.replicate 32 0 := rfl
  simp (maxSteps := 10000000) (disch := omega) only [go_sem, c26, ctROts, ctLDigits, otsR, e, DigR, ret_l, e5, l1, l2, l3, l4, l5, Int.cast_ofNat_Int, reduceIte, seval, -BitVec.isValue, -BitVec.reduceOfNat, -List.reduceReplicate]
def ctLive : Nat × (List AV → R) := (26, A0 (True, .b true))
theorem ctLive_ok {Ct : List (Nat × (List AV → R))} (h : CtOK Tryd.prog Gs Ct) : CtOK Tryd.prog Gs (ctLive :: Ct) := CtOK_cons (Row0 fun _ => live_fun) h

def setS (c : BitVec 32) : Ots := match otsT c with
  | some o => o
  | none => ⟨c, false, 32, 4, 67, 4⟩
theorem set_fun (c : BitVec 32) : Fun Tryd.prog Gs 27 [Enc.enc c] (Enc.ret (setS c)) := by
  refine Fun_cc [ctROts] mo Tryd.func27 (by decide) cc27 rs27 Tryd.ntmps27 (by simp) ?_
  have hct := ctROts_ok CtOK_nil
  refine AW_run hct 1000 ?_
  cases h : otsT c with
  | none => simp (maxSteps := 10000000) (disch := omega) only [go_sem, c27, ctROts, otsR, h, ots0, setS, reduceIte, seval, -BitVec.isValue, -BitVec.reduceOfNat, -List.reduceReplicate]
  | some x => simp (maxSteps := 10000000) (disch := omega) only [go_sem, c27, ctROts, otsR, h, setS, reduceIte, seval, -BitVec.isValue, -BitVec.reduceOfNat, -List.reduceReplicate]
def ctSet : Nat × (List AV → R) := (27, A1 fun c : BitVec 32 => (True, Enc.ret (setS c)))
theorem ctSet_ok {Ct : List (Nat × (List AV → R))} (h : CtOK Tryd.prog Gs Ct) : CtOK Tryd.prog Gs (ctSet :: Ct) := CtOK_cons (Row1 fun c _ => set_fun c) h
end Go.Lv
