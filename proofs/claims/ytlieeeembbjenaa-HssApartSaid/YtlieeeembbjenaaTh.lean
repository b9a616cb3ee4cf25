/- A part of the proof. -/
import Derived.Test.YtlieeeembbjenaaTg
import Derived.Test.YtlieeeembbjenaaFD
set_option linter.all false
namespace Go.Lv
open Go Go.Proofs
set_option linter.unusedSimpArgs false
set_option maxRecDepth 100000

/-- digit k of a byte, w bits each, the highest first -/
def dig (w : Nat) (x : BitVec 8) (k : Nat) : Int := ((x.toNat / 2 ^ (8 - w * (k + 1))) &&& (2 ^ w - 1) : Nat)
def digs (w : Nat) (x : BitVec 8) (k : Nat) : List Int := (List.range k).map (dig w x)
def cutAll (w : Nat) (b : List (BitVec 8)) : List Int := b.flatMap fun x => digs w x (8 / w)
def cutS (w : Nat) (b : List (BitVec 8)) (most : Int) : List Int := (cutAll w b).take most.toNat

def wOK (w : Int) : Prop := w = 1 ∨ w = 2 ∨ w = 4 ∨ w = 8

def ctTop : Nat × (List AV → R) := (82, A1 fun o : Ots => (0 ≤ o.w ∧ o.w ≤ 61, .i (2 ^ o.w.toNat - 1)))
theorem ctTop_ok {Ct : List (Nat × (List AV → R))} (h : CtOK Try.prog [] Ct) : CtOK Try.prog [] (ctTop :: Ct) := CtOK_cons (Row1 fun o h => top_fun o h.1 h.2) h

def σcut (o : Ots) (b : List (BitVec 8)) (most : Int) (i : Nat) : St :=
  ⟨[(1, .ros false b.length (b.map .u8)), (2, .i most), (3, .ptr 0 0), (7, .sl 1 0 (cutS o.w.toNat (b.take i) most).length 1), (8, .i (8 / o.w)), (14, .ros false b.length (b.map .u8)), (15, .i b.length), (16, .i i)],
   [(0, ⟨[.u32 o.code, .b o.shake, .i o.n, .i o.w, .i o.p, .i o.ls], true⟩), (1, ⟨(cutS o.w.toNat (b.take i) most).map .i, true⟩)], 2⟩

def cutM (w : Nat) (b : List (BitVec 8)) (most : Int) (i k : Nat) : List Int := (cutAll w (b.take i) ++ digs w (b.getD i 0) k).take most.toNat
def σcut2 (o : Ots) (b : List (BitVec 8)) (most : Int) (i k : Nat) : St :=
  ⟨[(1, .ros false b.length (b.map .u8)), (2, .i most), (3, .ptr 0 0), (7, .sl 1 0 (cutM o.w.toNat b most i k).length 1), (8, .i (8 / o.w)), (9, .i i), (14, .ros false b.length (b.map .u8)), (15, .i b.length), (16, .i i), (19, .i (8 / o.w)), (20, .i k)],
   [(0, ⟨[.u32 o.code, .b o.shake, .i o.n, .i o.w, .i o.p, .i o.ls], true⟩), (1, ⟨(cutM o.w.toNat b most i k).map .i, true⟩)], 2⟩

theorem cutM_zero (w : Nat) (b : List (BitVec 8)) (most : Int) (i : Nat) : cutM w b most i 0 = cutS w (b.take i) most := by simp [cutM, cutS, digs]
theorem cutM_all (w : Nat) (b : List (BitVec 8)) (most : Int) (i : Nat) (h : i < b.length) : cutM w b most i (8 / w) = cutS w (b.take (i + 1)) most := by
  rw [cutM, cutS, List.take_succ_eq_append_getElem h]
  simp only [cutAll, List.flatMap_append, List.flatMap_cons, List.flatMap_nil, List.append_nil]
  simp [List.getD_eq_getElem?_getD, h]
theorem cutM_more (w : Nat) (b : List (BitVec 8)) (most : Int) (i k : Nat) (h : (cutM w b most i k).length < most) : cutM w b most i (k + 1) = cutM w b most i k ++ [dig w (b.getD i 0) k] := by
  simp only [cutM, List.length_take] at h ⊢
  have hl : (cutAll w (b.take i) ++ digs w (b.getD i 0) k).length < most.toNat := by omega
  have e : digs w (b.getD i 0) (k + 1) = digs w (b.getD i 0) k ++ [dig w (b.getD i 0) k] := by simp [digs, List.range_succ]
  generalize hA : cutAll w (b.take i) ++ digs w (b.getD i 0) k = A at *
  have t1 : (A ++ [dig w (b.getD i 0) k]).take most.toNat = A ++ [dig w (b.getD i 0) k] := List.take_of_length_le (by simp; omega)
  have t2 : A.take most.toNat = A := List.take_of_length_le (by omega)
  rw [e, ← List.append_assoc, hA, t1, t2]
theorem cutM_same (w : Nat) (b : List (BitVec 8)) (most : Int) (i k : Nat) (h : ¬ (cutM w b most i k).length < most) : cutM w b most i (k + 1) = cutM w b most i k := by
  simp only [cutM, List.length_take] at h ⊢
  have e : digs w (b.getD i 0) (k + 1) = digs w (b.getD i 0) k ++ [dig w (b.getD i 0) k] := by simp [digs, List.range_succ]
  rw [e, ← List.append_assoc, List.take_append_of_le_length (by omega)]

theorem cutAll_len (w : Nat) : ∀ (b : List (BitVec 8)), (cutAll w b).length ≤ 8 * b.length
  | [] => by simp [cutAll]
  | x :: b => by
    have ih := cutAll_len w b
    have h := Nat.div_le_self 8 w
    simp only [cutAll, List.flatMap_cons, List.length_append, List.length_cons, digs, List.length_map, List.length_range] at ih ⊢
    omega
theorem cutM_len (w : Nat) (b : List (BitVec 8)) (most : Int) (i k : Nat) : (cutM w b most i k).length ≤ 8 * b.length + k := by
  have h := cutAll_len w (b.take i)
  simp only [cutM, List.length_take, List.length_append, digs, List.length_map, List.length_range] at h ⊢
  omega

theorem bits8 {w : Int} (hw : wOK w) : (8 / w = ((8 / w.toNat : Nat) : Int)) ∧ ∀ k : Nat, k < 8 / w.toNat → 0 ≤ w * ((k : Int) + 1) ∧ w * ((k : Int) + 1) ≤ 8 := by
  rcases hw with rfl | rfl | rfl | rfl
  · exact ⟨rfl, fun k hk => by have : k < 8 := hk; omega⟩
  · exact ⟨rfl, fun k hk => by have : k < 4 := hk; omega⟩
  · exact ⟨rfl, fun k hk => by have : k < 2 := hk; omega⟩
  · exact ⟨rfl, fun k hk => by have : k < 1 := hk; omega⟩

theorem dig_eq {w : Int} (hw : wOK w) (x : BitVec 8) (k : Nat) (hk : k < 8 / w.toNat) :
    (((((x.toNat : Int) / 2 ^ (8 - w * ((k : Int) + 1)).toNat).toNat &&& ((2 : Int) ^ w.toNat - 1).toNat : Nat)) : Int) = dig w.toNat x k := by
  have e : ∀ n : Nat, ((x.toNat : Int) / 2 ^ n).toNat = x.toNat / 2 ^ n := fun n => by
    have : ((x.toNat : Int) / 2 ^ n) = ((x.toNat / 2 ^ n : Nat) : Int) := by simp
    rw [this, Int.toNat_natCast]
  have e2 : ((2 : Int) ^ w.toNat - 1).toNat = 2 ^ w.toNat - 1 := by
    have : (2 : Int) ^ w.toNat = ((2 ^ w.toNat : Nat) : Int) := by simp
    rw [this]; have := Nat.pow_pos (n := w.toNat) (show 0 < 2 by omega); omega
  have e3 : (8 - w * ((k : Int) + 1)).toNat = 8 - w.toNat * (k + 1) := by
    have := (bits8 hw).2 k hk
    have hm : (w.toNat : Int) * ((k : Int) + 1) = w * ((k : Int) + 1) := by
      have : (w.toNat : Int) = w := by rcases hw with h | h | h | h <;> omega
      rw [this]
    have hn : ((w.toNat * (k + 1) : Nat) : Int) = w * ((k : Int) + 1) := by rw [← hm]; simp
    omega
  rw [e, e2, e3, dig]

theorem cut_funG (o : Ots) (b : List (BitVec 8)) (most : Int) (hw : wOK o.w) (hb : b.length ≤ 1000000000) (hm : i64ok most) : FunG Try.prog [] 81 [Enc.enc o, Enc.enc b, Enc.enc most] [] (.sl 1 0 (cutS o.w.toNat b most).length 1) [(1, ⟨(cutS o.w.toNat b most).map .i, true⟩)] := by
  refine FunG_cc [ctTop] [] 0 mo Try.func81 (by decide) cc81 rs81 Try.ntmps81 (by simp) rfl (by simp) rfl ?_
  refine AW_run (ctTop_ok CtOK_nil) 12 ?_
  have hw1 : 0 < o.w ∧ o.w ≤ 8 := by rcases hw with h | h | h | h <;> omega
  simp (disch := omega) only [go_sem, c81, reduceIte, Nat.reduceAdd, Nat.reduceSub, Nat.reduceMul, Nat.reduceDiv, Nat.reduceMod, Nat.reducePow, Nat.reduceLT, Nat.reduceLeDiff, Nat.reduceBEq, Nat.reduceEqDiff, Nat.reduceAnd, Int.reduceLT, Int.reduceLE, Int.reduceEq, Int.reduceAdd, Int.reduceSub, Int.reduceMul, Int.reduceDiv, Int.reduceMod, Int.reducePow, Int.reduceToNat, Int.reduceNatCast, Int.reduceNeg, BitVec.reduceAdd, BitVec.reduceSub, BitVec.reduceMul, BitVec.reduceUDiv, BitVec.reduceUMod, BitVec.reduceDiv, BitVec.reduceMod, BitVec.reduceLT, BitVec.reduceLE, BitVec.reduceEq, BitVec.reduceToNat, BitVec.reduceToInt, BitVec.reduceOfInt, BitVec.reduceSetWidth, BitVec.reduceAnd, BitVec.reduceOr, BitVec.reduceXOr, BitVec.reduceNot, BitVec.reduceHShiftLeft, BitVec.reduceHShiftRight]
  refine AW_null 7 1 (by simp only [go_sem, reduceIte, Nat.reduceAdd, Nat.reduceSub, Nat.reduceMul, Nat.reduceDiv, Nat.reduceMod, Nat.reducePow, Nat.reduceLT, Nat.reduceLeDiff, Nat.reduceBEq, Nat.reduceEqDiff, Nat.reduceAnd, Int.reduceLT, Int.reduceLE, Int.reduceEq, Int.reduceAdd, Int.reduceSub, Int.reduceMul, Int.reduceDiv, Int.reduceMod, Int.reducePow, Int.reduceToNat, Int.reduceNatCast, Int.reduceNeg, BitVec.reduceAdd, BitVec.reduceSub, BitVec.reduceMul, BitVec.reduceUDiv, BitVec.reduceUMod, BitVec.reduceDiv, BitVec.reduceMod, BitVec.reduceLT, BitVec.reduceLE, BitVec.reduceEq, BitVec.reduceToNat, BitVec.reduceToInt, BitVec.reduceOfInt, BitVec.reduceSetWidth, BitVec.reduceAnd, BitVec.reduceOr, BitVec.reduceXOr, BitVec.reduceNot, BitVec.reduceHShiftLeft, BitVec.reduceHShiftRight]) ?_
  simp only [go_sem, reduceIte, Nat.reduceAdd, Nat.reduceSub, Nat.reduceMul, Nat.reduceDiv, Nat.reduceMod, Nat.reducePow, Nat.reduceLT, Nat.reduceLeDiff, Nat.reduceBEq, Nat.reduceEqDiff, Nat.reduceAnd, Int.reduceLT, Int.reduceLE, Int.reduceEq, Int.reduceAdd, Int.reduceSub, Int.reduceMul, Int.reduceDiv, Int.reduceMod, Int.reducePow, Int.reduceToNat, Int.reduceNatCast, Int.reduceNeg, BitVec.reduceAdd, BitVec.reduceSub, BitVec.reduceMul, BitVec.reduceUDiv, BitVec.reduceUMod, BitVec.reduceDiv, BitVec.reduceMod, BitVec.reduceLT, BitVec.reduceLE, BitVec.reduceEq, BitVec.reduceToNat, BitVec.reduceToInt, BitVec.reduceOfInt, BitVec.reduceSetWidth, BitVec.reduceAnd, BitVec.reduceOr, BitVec.reduceXOr, BitVec.reduceNot, BitVec.reduceHShiftLeft, BitVec.reduceHShiftRight]
  refine AW_loop (σcut o b most) (fun i => i ≤ b.length) (fun i => b.length - i) 0 (Nat.zero_le _) (Wk_d [] (by simp) ?_) fun i hi => ?_
  · simp only [go_sem, σcut, cutS, cutAll, List.flatMap_nil, reduceIte, Nat.reduceAdd, Nat.reduceSub, Nat.reduceMul, Nat.reduceDiv, Nat.reduceMod, Nat.reducePow, Nat.reduceLT, Nat.reduceLeDiff, Nat.reduceBEq, Nat.reduceEqDiff, Nat.reduceAnd, Int.reduceLT, Int.reduceLE, Int.reduceEq, Int.reduceAdd, Int.reduceSub, Int.reduceMul, Int.reduceDiv, Int.reduceMod, Int.reducePow, Int.reduceToNat, Int.reduceNatCast, Int.reduceNeg, BitVec.reduceAdd, BitVec.reduceSub, BitVec.reduceMul, BitVec.reduceUDiv, BitVec.reduceUMod, BitVec.reduceDiv, BitVec.reduceMod, BitVec.reduceLT, BitVec.reduceLE, BitVec.reduceEq, BitVec.reduceToNat, BitVec.reduceToInt, BitVec.reduceOfInt, BitVec.reduceSetWidth, BitVec.reduceAnd, BitVec.reduceOr, BitVec.reduceXOr, BitVec.reduceNot, BitVec.reduceHShiftLeft, BitVec.reduceHShiftRight]
    simp
  · refine AW_run (ctTop_ok CtOK_nil) 1000 ?_
    simp (disch := omega) only [go_sem, σcut, reduceIte, Nat.reduceAdd, Nat.reduceSub, Nat.reduceMul, Nat.reduceDiv, Nat.reduceMod, Nat.reducePow, Nat.reduceLT, Nat.reduceLeDiff, Nat.reduceBEq, Nat.reduceEqDiff, Nat.reduceAnd, Int.reduceLT, Int.reduceLE, Int.reduceEq, Int.reduceAdd, Int.reduceSub, Int.reduceMul, Int.reduceDiv, Int.reduceMod, Int.reducePow, Int.reduceToNat, Int.reduceNatCast, Int.reduceNeg, BitVec.reduceAdd, BitVec.reduceSub, BitVec.reduceMul, BitVec.reduceUDiv, BitVec.reduceUMod, BitVec.reduceDiv, BitVec.reduceMod, BitVec.reduceLT, BitVec.reduceLE, BitVec.reduceEq, BitVec.reduceToNat, BitVec.reduceToInt, BitVec.reduceOfInt, BitVec.reduceSetWidth, BitVec.reduceAnd, BitVec.reduceOr, BitVec.reduceXOr, BitVec.reduceNot, BitVec.reduceHShiftLeft, BitVec.reduceHShiftRight]
    refine run_br (fun hb => ?_) (fun hb => ?_)
    · have hlt : i < b.length := by simpa using hb
      simp (disch := omega) only [go_sem, reduceIte, Nat.reduceAdd, Nat.reduceSub, Nat.reduceMul, Nat.reduceDiv, Nat.reduceMod, Nat.reducePow, Nat.reduceLT, Nat.reduceLeDiff, Nat.reduceBEq, Nat.reduceEqDiff, Nat.reduceAnd, Int.reduceLT, Int.reduceLE, Int.reduceEq, Int.reduceAdd, Int.reduceSub, Int.reduceMul, Int.reduceDiv, Int.reduceMod, Int.reducePow, Int.reduceToNat, Int.reduceNatCast, Int.reduceNeg, BitVec.reduceAdd, BitVec.reduceSub, BitVec.reduceMul, BitVec.reduceUDiv, BitVec.reduceUMod, BitVec.reduceDiv, BitVec.reduceMod, BitVec.reduceLT, BitVec.reduceLE, BitVec.reduceEq, BitVec.reduceToNat, BitVec.reduceToInt, BitVec.reduceOfInt, BitVec.reduceSetWidth, BitVec.reduceAnd, BitVec.reduceOr, BitVec.reduceXOr, BitVec.reduceNot, BitVec.reduceHShiftLeft, BitVec.reduceHShiftRight]
      refine AW_loop (σcut2 o b most i) (fun k => k ≤ 8 / o.w.toNat) (fun k => 8 / o.w.toNat - k) 0 (Nat.zero_le _) (Wk_d [] (by simp) ?_) fun k hk => ?_
      · simp only [go_sem, σcut2, cutM_zero, reduceIte, Nat.reduceAdd, Nat.reduceSub, Nat.reduceMul, Nat.reduceDiv, Nat.reduceMod, Nat.reducePow, Nat.reduceLT, Nat.reduceLeDiff, Nat.reduceBEq, Nat.reduceEqDiff, Nat.reduceAnd, Int.reduceLT, Int.reduceLE, Int.reduceEq, Int.reduceAdd, Int.reduceSub, Int.reduceMul, Int.reduceDiv, Int.reduceMod, Int.reducePow, Int.reduceToNat, Int.reduceNatCast, Int.reduceNeg, BitVec.reduceAdd, BitVec.reduceSub, BitVec.reduceMul, BitVec.reduceUDiv, BitVec.reduceUMod, BitVec.reduceDiv, BitVec.reduceMod, BitVec.reduceLT, BitVec.reduceLE, BitVec.reduceEq, BitVec.reduceToNat, BitVec.reduceToInt, BitVec.reduceOfInt, BitVec.reduceSetWidth, BitVec.reduceAnd, BitVec.reduceOr, BitVec.reduceXOr, BitVec.reduceNot, BitVec.reduceHShiftLeft, BitVec.reduceHShiftRight]
        simp
      · refine AW_run (ctTop_ok CtOK_nil) 1000 ?_
        simp (disch := omega) only [go_sem, σcut2, reduceIte, Nat.reduceAdd, Nat.reduceSub, Nat.reduceMul, Nat.reduceDiv, Nat.reduceMod, Nat.reducePow, Nat.reduceLT, Nat.reduceLeDiff, Nat.reduceBEq, Nat.reduceEqDiff, Nat.reduceAnd, Int.reduceLT, Int.reduceLE, Int.reduceEq, Int.reduceAdd, Int.reduceSub, Int.reduceMul, Int.reduceDiv, Int.reduceMod, Int.reducePow, Int.reduceToNat, Int.reduceNatCast, Int.reduceNeg, BitVec.reduceAdd, BitVec.reduceSub, BitVec.reduceMul, BitVec.reduceUDiv, BitVec.reduceUMod, BitVec.reduceDiv, BitVec.reduceMod, BitVec.reduceLT, BitVec.reduceLE, BitVec.reduceEq, BitVec.reduceToNat, BitVec.reduceToInt, BitVec.reduceOfInt, BitVec.reduceSetWidth, BitVec.reduceAnd, BitVec.reduceOr, BitVec.reduceXOr, BitVec.reduceNot, BitVec.reduceHShiftLeft, BitVec.reduceHShiftRight]
        have hx := bits8 hw
        refine run_br (fun hc => ?_) (fun hc => ?_)
        · have hkl : k < 8 / o.w.toNat := by
            have h9 : (k : Int) < 8 / o.w := by simpa using hc
            have h10 := hx.1
            omega
          obtain ⟨y1, y2⟩ := hx.2 k hkl
          have hkk : (k : Int) < 8 / o.w := by omega
          have hk8 : k < 8 := by have := Nat.div_le_self 8 o.w.toNat; omega
          obtain ⟨p1, p2⟩ := pow_le61 (show o.w ≤ 61 by omega)
          have hq := (b.getD i 0).isLt
          have hq0 : 0 ≤ ((b.getD i 0).toNat : Int) / 2 ^ (8 - o.w * ((k : Int) + 1)).toNat := Int.ediv_nonneg (by omega) (by have := Int.pow_pos (n := 2) (m := (8 - o.w * ((k : Int) + 1)).toNat) (by omega); omega)
          have hq1 : ((b.getD i 0).toNat : Int) / 2 ^ (8 - o.w * ((k : Int) + 1)).toNat ≤ (b.getD i 0).toNat := Int.ediv_le_self _ (by omega)
          simp (disch := omega) only [go_sem, reduceIte, Nat.reduceAdd, Nat.reduceSub, Nat.reduceMul, Nat.reduceDiv, Nat.reduceMod, Nat.reducePow, Nat.reduceLT, Nat.reduceLeDiff, Nat.reduceBEq, Nat.reduceEqDiff, Nat.reduceAnd, Int.reduceLT, Int.reduceLE, Int.reduceEq, Int.reduceAdd, Int.reduceSub, Int.reduceMul, Int.reduceDiv, Int.reduceMod, Int.reducePow, Int.reduceToNat, Int.reduceNatCast, Int.reduceNeg, BitVec.reduceAdd, BitVec.reduceSub, BitVec.reduceMul, BitVec.reduceUDiv, BitVec.reduceUMod, BitVec.reduceDiv, BitVec.reduceMod, BitVec.reduceLT, BitVec.reduceLE, BitVec.reduceEq, BitVec.reduceToNat, BitVec.reduceToInt, BitVec.reduceOfInt, BitVec.reduceSetWidth, BitVec.reduceAnd, BitVec.reduceOr, BitVec.reduceXOr, BitVec.reduceNot, BitVec.reduceHShiftLeft, BitVec.reduceHShiftRight]
          refine run_br (fun hd => ?_) (fun hd => ?_)
          · have hlen : ((cutM o.w.toNat b most i k).length : Int) < most := by simpa using hd
            have hcl := cutM_len o.w.toNat b most i k
            simp (disch := omega) only [go_sem, ctTop, reduceIte, Nat.reduceAdd, Nat.reduceSub, Nat.reduceMul, Nat.reduceDiv, Nat.reduceMod, Nat.reducePow, Nat.reduceLT, Nat.reduceLeDiff, Nat.reduceBEq, Nat.reduceEqDiff, Nat.reduceAnd, Int.reduceLT, Int.reduceLE, Int.reduceEq, Int.reduceAdd, Int.reduceSub, Int.reduceMul, Int.reduceDiv, Int.reduceMod, Int.reducePow, Int.reduceToNat, Int.reduceNatCast, Int.reduceNeg, BitVec.reduceAdd, BitVec.reduceSub, BitVec.reduceMul, BitVec.reduceUDiv, BitVec.reduceUMod, BitVec.reduceDiv, BitVec.reduceMod, BitVec.reduceLT, BitVec.reduceLE, BitVec.reduceEq, BitVec.reduceToNat, BitVec.reduceToInt, BitVec.reduceOfInt, BitVec.reduceSetWidth, BitVec.reduceAnd, BitVec.reduceOr, BitVec.reduceXOr, BitVec.reduceNot, BitVec.reduceHShiftLeft, BitVec.reduceHShiftRight]
            refine ⟨k + 1, by omega, Wk_d [(0, 0), (1, 3)] (by simp) ?_, by omega⟩
            simp only [go_sem, reduceIte, Nat.reduceAdd, Nat.reduceSub, Nat.reduceMul, Nat.reduceDiv, Nat.reduceMod, Nat.reducePow, Nat.reduceLT, Nat.reduceLeDiff, Nat.reduceBEq, Nat.reduceEqDiff, Nat.reduceAnd, Int.reduceLT, Int.reduceLE, Int.reduceEq, Int.reduceAdd, Int.reduceSub, Int.reduceMul, Int.reduceDiv, Int.reduceMod, Int.reducePow, Int.reduceToNat, Int.reduceNatCast, Int.reduceNeg, BitVec.reduceAdd, BitVec.reduceSub, BitVec.reduceMul, BitVec.reduceUDiv, BitVec.reduceUMod, BitVec.reduceDiv, BitVec.reduceMod, BitVec.reduceLT, BitVec.reduceLE, BitVec.reduceEq, BitVec.reduceToNat, BitVec.reduceToInt, BitVec.reduceOfInt, BitVec.reduceSetWidth, BitVec.reduceAnd, BitVec.reduceOr, BitVec.reduceXOr, BitVec.reduceNot, BitVec.reduceHShiftLeft, BitVec.reduceHShiftRight]
            rw [cutM_more _ _ _ _ _ hlen, dig_eq hw _ k hkl]
            simp
          · have hlen : ¬ ((cutM o.w.toNat b most i k).length : Int) < most := by simpa using hd
            simp (disch := omega) only [go_sem, reduceIte, Nat.reduceAdd, Nat.reduceSub, Nat.reduceMul, Nat.reduceDiv, Nat.reduceMod, Nat.reducePow, Nat.reduceLT, Nat.reduceLeDiff, Nat.reduceBEq, Nat.reduceEqDiff, Nat.reduceAnd, Int.reduceLT, Int.reduceLE, Int.reduceEq, Int.reduceAdd, Int.reduceSub, Int.reduceMul, Int.reduceDiv, Int.reduceMod, Int.reducePow, Int.reduceToNat, Int.reduceNatCast, Int.reduceNeg, BitVec.reduceAdd, BitVec.reduceSub, BitVec.reduceMul, BitVec.reduceUDiv, BitVec.reduceUMod, BitVec.reduceDiv, BitVec.reduceMod, BitVec.reduceLT, BitVec.reduceLE, BitVec.reduceEq, BitVec.reduceToNat, BitVec.reduceToInt, BitVec.reduceOfInt, BitVec.reduceSetWidth, BitVec.reduceAnd, BitVec.reduceOr, BitVec.reduceXOr, BitVec.reduceNot, BitVec.reduceHShiftLeft, BitVec.reduceHShiftRight]
            refine ⟨k + 1, by omega, Wk_d [] (by simp) ?_, by omega⟩
            simp only [go_sem, reduceIte, Nat.reduceAdd, Nat.reduceSub, Nat.reduceMul, Nat.reduceDiv, Nat.reduceMod, Nat.reducePow, Nat.reduceLT, Nat.reduceLeDiff, Nat.reduceBEq, Nat.reduceEqDiff, Nat.reduceAnd, Int.reduceLT, Int.reduceLE, Int.reduceEq, Int.reduceAdd, Int.reduceSub, Int.reduceMul, Int.reduceDiv, Int.reduceMod, Int.reducePow, Int.reduceToNat, Int.reduceNatCast, Int.reduceNeg, BitVec.reduceAdd, BitVec.reduceSub, BitVec.reduceMul, BitVec.reduceUDiv, BitVec.reduceUMod, BitVec.reduceDiv, BitVec.reduceMod, BitVec.reduceLT, BitVec.reduceLE, BitVec.reduceEq, BitVec.reduceToNat, BitVec.reduceToInt, BitVec.reduceOfInt, BitVec.reduceSetWidth, BitVec.reduceAnd, BitVec.reduceOr, BitVec.reduceXOr, BitVec.reduceNot, BitVec.reduceHShiftLeft, BitVec.reduceHShiftRight]
            rw [cutM_same _ _ _ _ _ hlen]
            simp
        · have hke : k = 8 / o.w.toNat := by
            have h9 : ¬ (k : Int) < 8 / o.w := by simpa using hc
            have h10 := hx.1
            omega
          have hkk : ¬ (k : Int) < 8 / o.w := by have := hx.1; omega
          simp (disch := omega) only [go_sem, reduceIte, Nat.reduceAdd, Nat.reduceSub, Nat.reduceMul, Nat.reduceDiv, Nat.reduceMod, Nat.reducePow, Nat.reduceLT, Nat.reduceLeDiff, Nat.reduceBEq, Nat.reduceEqDiff, Nat.reduceAnd, Int.reduceLT, Int.reduceLE, Int.reduceEq, Int.reduceAdd, Int.reduceSub, Int.reduceMul, Int.reduceDiv, Int.reduceMod, Int.reducePow, Int.reduceToNat, Int.reduceNatCast, Int.reduceNeg, BitVec.reduceAdd, BitVec.reduceSub, BitVec.reduceMul, BitVec.reduceUDiv, BitVec.reduceUMod, BitVec.reduceDiv, BitVec.reduceMod, BitVec.reduceLT, BitVec.reduceLE, BitVec.reduceEq, BitVec.reduceToNat, BitVec.reduceToInt, BitVec.reduceOfInt, BitVec.reduceSetWidth, BitVec.reduceAnd, BitVec.reduceOr, BitVec.reduceXOr, BitVec.reduceNot, BitVec.reduceHShiftLeft, BitVec.reduceHShiftRight]
          refine ⟨i + 1, by omega, Wk_d [] (by simp) ?_, by omega⟩
          simp only [go_sem, reduceIte, Nat.reduceAdd, Nat.reduceSub, Nat.reduceMul, Nat.reduceDiv, Nat.reduceMod, Nat.reducePow, Nat.reduceLT, Nat.reduceLeDiff, Nat.reduceBEq, Nat.reduceEqDiff, Nat.reduceAnd, Int.reduceLT, Int.reduceLE, Int.reduceEq, Int.reduceAdd, Int.reduceSub, Int.reduceMul, Int.reduceDiv, Int.reduceMod, Int.reducePow, Int.reduceToNat, Int.reduceNatCast, Int.reduceNeg, BitVec.reduceAdd, BitVec.reduceSub, BitVec.reduceMul, BitVec.reduceUDiv, BitVec.reduceUMod, BitVec.reduceDiv, BitVec.reduceMod, BitVec.reduceLT, BitVec.reduceLE, BitVec.reduceEq, BitVec.reduceToNat, BitVec.reduceToInt, BitVec.reduceOfInt, BitVec.reduceSetWidth, BitVec.reduceAnd, BitVec.reduceOr, BitVec.reduceXOr, BitVec.reduceNot, BitVec.reduceHShiftLeft, BitVec.reduceHShiftRight]
          rw [hke, cutM_all _ _ _ _ hlt]
          simp
    · have hge : i = b.length := by have : ¬ i < b.length := by simpa using hb
                                    omega
      subst hge
      simp (disch := omega) only [go_sem, reduceIte, Nat.reduceAdd, Nat.reduceSub, Nat.reduceMul, Nat.reduceDiv, Nat.reduceMod, Nat.reducePow, Nat.reduceLT, Nat.reduceLeDiff, Nat.reduceBEq, Nat.reduceEqDiff, Nat.reduceAnd, Int.reduceLT, Int.reduceLE, Int.reduceEq, Int.reduceAdd, Int.reduceSub, Int.reduceMul, Int.reduceDiv, Int.reduceMod, Int.reducePow, Int.reduceToNat, Int.reduceNatCast, Int.reduceNeg, BitVec.reduceAdd, BitVec.reduceSub, BitVec.reduceMul, BitVec.reduceUDiv, BitVec.reduceUMod, BitVec.reduceDiv, BitVec.reduceMod, BitVec.reduceLT, BitVec.reduceLE, BitVec.reduceEq, BitVec.reduceToNat, BitVec.reduceToInt, BitVec.reduceOfInt, BitVec.reduceSetWidth, BitVec.reduceAnd, BitVec.reduceOr, BitVec.reduceXOr, BitVec.reduceNot, BitVec.reduceHShiftLeft, BitVec.reduceHShiftRight]

theorem cut_fun (o : Ots) (b : List (BitVec 8)) (most : Int) (hw : wOK o.w) (hb : b.length ≤ 1000000000) (hm : i64ok most) : Fun Try.prog [] 81 [Enc.enc o, Enc.enc b, Enc.enc most] (Enc.ret (cutS o.w.toNat b most)) :=
  Fun_of_FunG (cut_funG o b most hw hb hm) (by simp only [go_sem, reduceIte, Nat.reduceAdd, Nat.reduceSub, Nat.reduceMul, Nat.reduceDiv, Nat.reduceMod, Nat.reducePow, Nat.reduceLT, Nat.reduceLeDiff, Nat.reduceBEq, Nat.reduceEqDiff, Nat.reduceAnd, Int.reduceLT, Int.reduceLE, Int.reduceEq, Int.reduceAdd, Int.reduceSub, Int.reduceMul, Int.reduceDiv, Int.reduceMod, Int.reducePow, Int.reduceToNat, Int.reduceNatCast, Int.reduceNeg, BitVec.reduceAdd, BitVec.reduceSub, BitVec.reduceMul, BitVec.reduceUDiv, BitVec.reduceUMod, BitVec.reduceDiv, BitVec.reduceMod, BitVec.reduceLT, BitVec.reduceLE, BitVec.reduceEq, BitVec.reduceToNat, BitVec.reduceToInt, BitVec.reduceOfInt, BitVec.reduceSetWidth, BitVec.reduceAnd, BitVec.reduceOr, BitVec.reduceXOr, BitVec.reduceNot, BitVec.reduceHShiftLeft, BitVec.reduceHShiftRight])
end Go.Lv
