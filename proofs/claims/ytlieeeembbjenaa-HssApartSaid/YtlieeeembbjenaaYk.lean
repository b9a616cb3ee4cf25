/- A part of the proof. -/
import Derived.Test.YtlieeeembbjenaaYh
set_option linter.all false
namespace Go.Lv
open Go Go.Proofs
set_option linter.unusedSimpArgs false
set_option maxRecDepth 100000

theorem one_shl' (h : Nat) : (1 : BitVec 64) <<< h = pw h := one_shl h
theorem pw_nat (h : Nat) (hh : h ≤ 60) : (pw h).toNat = 2 ^ h := by
  rw [pw, BitVec.toNat_ofNat]
  exact Nat.mod_eq_of_lt (Nat.pow_lt_pow_right (by omega) (by omega))
theorem pw_mask (x : BitVec 64) (h : Nat) (hh : h ≤ 60) : (x &&& (pw h - 1#64)).toNat = x.toNat % 2 ^ h := by
  have h1 : 0 < 2 ^ h := Nat.two_pow_pos h
  have h2 : 2 ^ h ≤ 2 ^ 60 := Nat.pow_le_pow_right (by omega) hh
  rw [BitVec.toNat_and, BitVec.toNat_sub, pw_nat h hh]
  rw [show (2 ^ 64 - BitVec.toNat 1#64 + 2 ^ h) % 2 ^ 64 = 2 ^ h - 1 by
    rw [show BitVec.toNat 1#64 = 1 from rfl]; omega]
  exact Nat.and_two_pow_sub_one_eq_mod _ _
theorem leafN (ls : List Level) (x : BitVec 64) (i : Nat) : (leafS ls x i).toNat = x.toNat / 2 ^ (hs ls ls.length - hs ls (i + 1)) % 2 ^ hN (ls.getD i lv0) := by
  have hh := hN_le (ls.getD i lv0)
  rw [leafS, BitVec.toNat_setWidth, pw_mask _ _ (by omega), BitVec.toNat_ushiftRight, Nat.shiftRight_eq_div_pow]
  apply Nat.mod_eq_of_lt
  have h2 : 2 ^ hN (ls.getD i lv0) ≤ 2 ^ 25 := Nat.pow_le_pow_right (by omega) hh
  have := Nat.mod_lt (x.toNat / 2 ^ (hs ls ls.length - hs ls (i + 1))) (Nat.two_pow_pos (hN (ls.getD i lv0)))
  omega
theorem hs_le_all (ls : List Level) (i : Nat) (h : i ≤ ls.length) : hs ls i ≤ hs ls ls.length := by
  have := hs_mono ls i (ls.length - i) (by omega)
  rw [Nat.add_sub_cancel' h] at this
  exact this
theorem sum_step (ls : List Level) (x : BitVec 64) (k : Nat) (h : k < ls.length) :
    (x >>> (hs ls ls.length - hs ls k)) <<< hN (ls.getD k lv0) + (leafS ls x k).setWidth 64 = x >>> (hs ls ls.length - hs ls (k + 1)) := by
  have hsu := hs_succ ls k h
  have hm := hs_le_all ls (k + 1) h
  apply BitVec.eq_of_toNat_eq
  rw [BitVec.toNat_add, BitVec.toNat_shiftLeft, BitVec.toNat_ushiftRight, BitVec.toNat_setWidth, leafN, BitVec.toNat_ushiftRight, Nat.shiftRight_eq_div_pow, Nat.shiftRight_eq_div_pow, Nat.shiftLeft_eq]
  obtain ⟨q, hq⟩ : ∃ q, q = x.toNat / 2 ^ (hs ls ls.length - hs ls (k + 1)) := ⟨_, rfl⟩
  have e : x.toNat / 2 ^ (hs ls ls.length - hs ls k) = q / 2 ^ hN (ls.getD k lv0) := by
    rw [hq, Nat.div_div_eq_div_mul, ← Nat.pow_add]
    congr 2; omega
  rw [e, ← hq]
  have hq2 : q < 2 ^ 64 := Nat.lt_of_le_of_lt (hq ▸ Nat.div_le_self _ _) x.isLt
  have hd := Nat.div_add_mod' q (2 ^ hN (ls.getD k lv0))
  have h1 : q / 2 ^ hN (ls.getD k lv0) * 2 ^ hN (ls.getD k lv0) < 2 ^ 64 := by omega
  have h2 : q % 2 ^ hN (ls.getD k lv0) < 2 ^ 64 := by omega
  rw [Nat.mod_eq_of_lt h1, Nat.mod_eq_of_lt h2, hd, Nat.mod_eq_of_lt hq2]
theorem sum_zero (ls : List Level) (x : BitVec 64) (h : hs ls ls.length ≤ 60) (hx : x < pw (hs ls ls.length)) : x >>> hs ls ls.length = 0#64 := by
  apply BitVec.eq_of_toNat_eq
  rw [BitVec.lt_def, pw_nat _ h] at hx
  rw [BitVec.toNat_ushiftRight, Nat.shiftRight_eq_div_pow, Nat.div_eq_of_lt hx]; rfl
theorem leaf_lt (ls : List Level) (x : BitVec 64) (k : Nat) : ¬ (pw (hN (ls.getD k lv0)) ≤ (leafS ls x k).setWidth 64) := by
  have hh := hN_le (ls.getD k lv0)
  rw [BitVec.le_def, pw_nat _ (by omega), BitVec.toNat_setWidth, leafN]
  have := Nat.mod_lt (x.toNat / 2 ^ (hs ls ls.length - hs ls (k + 1))) (Nat.two_pow_pos (hN (ls.getD k lv0)))
  have h3 := Nat.mod_le (x.toNat / 2 ^ (hs ls ls.length - hs ls (k + 1)) % 2 ^ hN (ls.getD k lv0)) (2 ^ 64)
  omega
/-- leaves alike -/
def likeK (ls : List Level) (a b : BitVec 64) (k : Nat) : Prop := ∀ j, j < k → leafS ls a j = leafS ls b j
instance (ls : List Level) (a b : BitVec 64) (k : Nat) : Decidable (likeK ls a b k) := by unfold likeK; infer_instance
theorem likeK_succ (ls : List Level) (a b : BitVec 64) (k : Nat) : likeK ls a b (k + 1) = (likeK ls a b k ∧ leafS ls a k = leafS ls b k) := by
  apply propext
  constructor
  · intro h; exact ⟨fun j hj => h j (by omega), h k (by omega)⟩
  · rintro ⟨h1, h2⟩ j hj
    by_cases e : j < k
    · exact h1 j e
    · rw [show j = k by omega]; exact h2
theorem like_pre (ls : List Level) (a b : BitVec 64) (h : hs ls ls.length ≤ 60) (ha : a < pw (hs ls ls.length)) (hb : b < pw (hs ls ls.length)) :
    ∀ k, k ≤ ls.length → likeK ls a b k → a >>> (hs ls ls.length - hs ls k) = b >>> (hs ls ls.length - hs ls k)
  | 0, _, _ => by rw [hs_zero, Nat.sub_zero, sum_zero ls a h ha, sum_zero ls b h hb]
  | k + 1, hk, hl => by
    rw [likeK_succ] at hl
    rw [← sum_step ls a k hk, ← sum_step ls b k hk, like_pre ls a b h ha hb k (by omega) hl.1, hl.2]
theorem like_all (ls : List Level) (a b : BitVec 64) (h : hs ls ls.length ≤ 60) (ha : a < pw (hs ls ls.length)) (hb : b < pw (hs ls ls.length)) : likeK ls a b ls.length = (a = b) := by
  apply propext
  constructor
  · intro hl
    have := like_pre ls a b h ha hb ls.length (Nat.le_refl _) hl
    rwa [Nat.sub_self, BitVec.ushiftRight_zero, BitVec.ushiftRight_zero] at this
  · rintro rfl j _; rfl
theorem leaves_getD (ls : List Level) (x : BitVec 64) (k : Nat) (h : k < ls.length) (d : BitVec 32) : (leaves ls x).getD k d = leafS ls x k := by
  simp [leaves, List.getD_eq_getElem?_getD, h]
theorem leaves_len (ls : List Level) (x : BitVec 64) : (leaves ls x).length = ls.length := by simp [leaves]

def σap (ls : List Level) (a b : BitVec 64) (k : Nat) : St := ⟨[(0, .ros false ls.length (lvc ls)), (1, .u64 a), (2, .u64 b), (7, .ros true ls.length ((leaves ls a).map .u32)), (9, .ros true ls.length ((leaves ls b).map .u32)), (13, .u64 (a >>> (hs ls ls.length - hs ls k))), (14, .b (decide (likeK ls a b k))), (90, .i ls.length), (91, .i k)], [], 0⟩
set_option maxHeartbeats 8000000 in
theorem HApart_fun (ls : Lvs) (a b : BitVec 64) (hl : ls.l.length ≤ 140737488351232) : Fun Try.prog [] 5 [Enc.enc ls, Enc.enc a, Enc.enc b] (.b true) := by
  obtain ⟨ls⟩ := ls
  simp only at hl ⊢
  refine Fun_cc [ctLive9, ctRMayL, ctCountL, ctCount 25, ctSplit, ctRSets] mo Try.func5 (by decide) cc5 rs5 Try.ntmps5 (by simp) ?_
  have hct := ctLive9_ok (ctRMayL_ok (ctCountL_ok (ctRCount_ok (ctSplit_ok (ctRSets_ok CtOK_nil)))))
  by_cases hm : mayP ls
  · have h60 := hm.2.2.2
    have h8 := hm.2.1
    by_cases ha : a < pw (hs ls ls.length)
    · have sa1 : splitL ls a = leaves ls a := by rw [splitL, if_pos hm, if_pos ha]
      have sa2 : splitE ls a = 0 := by rw [splitE, if_pos hm, if_pos ha]
      have ha' : ¬ (pw (hs ls ls.length) ≤ a) := by rw [BitVec.le_def]; rw [BitVec.lt_def] at ha; omega
      by_cases hb : b < pw (hs ls ls.length)
      · have sb1 : splitL ls b = leaves ls b := by rw [splitL, if_pos hm, if_pos hb]
        have sb2 : splitE ls b = 0 := by rw [splitE, if_pos hm, if_pos hb]
        have hb' : ¬ (pw (hs ls ls.length) ≤ b) := by rw [BitVec.le_def]; rw [BitVec.lt_def] at hb; omega
        have la := leaves_len ls a
        have lb := leaves_len ls b
        refine AW_run hct 1000 ?_
        simp (maxSteps := 10000000) (disch := omega) only [go_sem, c5, ctLive9, ctRMayL, ctCountL, ctCount, ctSplit, ctRSets, eq_true hm, decide_true, sa1, sa2, sb1, sb2, ha', hb', la, lb, reduceIte, Nat.reduceAdd, Nat.reduceSub, Nat.reduceMul, Nat.reduceDiv, Nat.reduceMod, Nat.reducePow, Nat.reduceLT, Nat.reduceLeDiff, Nat.reduceBEq, Nat.reduceEqDiff, Nat.reduceAnd, Int.reduceLT, Int.reduceLE, Int.reduceEq, Int.reduceAdd, Int.reduceSub, Int.reduceMul, Int.reduceDiv, Int.reduceMod, Int.reducePow, Int.reduceToNat, Int.reduceNatCast, Int.reduceNeg, BitVec.reduceAdd, BitVec.reduceSub, BitVec.reduceMul, BitVec.reduceUDiv, BitVec.reduceUMod, BitVec.reduceDiv, BitVec.reduceMod, BitVec.reduceLT, BitVec.reduceLE, BitVec.reduceEq, BitVec.reduceToNat, BitVec.reduceToInt, BitVec.reduceOfInt, BitVec.reduceSetWidth, BitVec.reduceAnd, BitVec.reduceOr, BitVec.reduceXOr, BitVec.reduceNot, BitVec.reduceHShiftLeft, BitVec.reduceHShiftRight]
        refine AW_loop (σap ls a b) (fun k => k ≤ ls.length) (fun k => ls.length - k) 0 (Nat.zero_le _) (Wk_p [] ?_) fun k hk => ?_
        · have hz := sum_zero ls a h60 ha
          have hlk : decide (likeK ls a b 0) = true := decide_eq_true fun j hj => absurd hj (Nat.not_lt_zero j)
          simp only [go_sem, σap, hs_zero, Nat.sub_zero, hz, hlk, reduceIte, Nat.reduceAdd, Nat.reduceSub, Nat.reduceMul, Nat.reduceDiv, Nat.reduceMod, Nat.reducePow, Nat.reduceLT, Nat.reduceLeDiff, Nat.reduceBEq, Nat.reduceEqDiff, Nat.reduceAnd, Int.reduceLT, Int.reduceLE, Int.reduceEq, Int.reduceAdd, Int.reduceSub, Int.reduceMul, Int.reduceDiv, Int.reduceMod, Int.reducePow, Int.reduceToNat, Int.reduceNatCast, Int.reduceNeg, BitVec.reduceAdd, BitVec.reduceSub, BitVec.reduceMul, BitVec.reduceUDiv, BitVec.reduceUMod, BitVec.reduceDiv, BitVec.reduceMod, BitVec.reduceLT, BitVec.reduceLE, BitVec.reduceEq, BitVec.reduceToNat, BitVec.reduceToInt, BitVec.reduceOfInt, BitVec.reduceSetWidth, BitVec.reduceAnd, BitVec.reduceOr, BitVec.reduceXOr, BitVec.reduceNot, BitVec.reduceHShiftLeft, BitVec.reduceHShiftRight]
          try simp
        · have e1 : ((k : Int) + 1) = ((k + 1 : Nat) : Int) := by omega
          by_cases hd : k < ls.length
          · have hd' : (k : Int) < ls.length := by omega
            have hat := lvc_at' ls k hd
            have hst := sum_step ls a k hd
            have hlt := leaf_lt ls a k
            have ga := fun d => leaves_getD ls a k hd d
            have gb := fun d => leaves_getD ls b k hd d
            have hls := likeK_succ ls a b k
            obtain ⟨v, hv⟩ : ∃ v, v = ls.getD k lv0 := ⟨_, rfl⟩
            rw [← hv] at hat hst hlt
            have hbn := hN_eq v
            have hn := hN_le v
            have hw : (BitVec.ofInt 64 ((hN v : Nat) : Int)).toNat = hN v := by
              rw [BitVec.ofInt_natCast, BitVec.toNat_ofNat]; omega
            by_cases hk2 : likeK ls a b k
            · refine AW_run hct 1000 ?_
              simp (maxSteps := 10000000) (disch := omega) only [go_sem, σap, ctLive9, ctRMayL, ctCountL, ctCount, ctSplit, ctRSets, hd', hat, hbn, hw, ga, gb, one_shl, one_shl', hlt, hst, la, lb, eq_true hk2, decide_true, reduceIte, Nat.reduceAdd, Nat.reduceSub, Nat.reduceMul, Nat.reduceDiv, Nat.reduceMod, Nat.reducePow, Nat.reduceLT, Nat.reduceLeDiff, Nat.reduceBEq, Nat.reduceEqDiff, Nat.reduceAnd, Int.reduceLT, Int.reduceLE, Int.reduceEq, Int.reduceAdd, Int.reduceSub, Int.reduceMul, Int.reduceDiv, Int.reduceMod, Int.reducePow, Int.reduceToNat, Int.reduceNatCast, Int.reduceNeg, BitVec.reduceAdd, BitVec.reduceSub, BitVec.reduceMul, BitVec.reduceUDiv, BitVec.reduceUMod, BitVec.reduceDiv, BitVec.reduceMod, BitVec.reduceLT, BitVec.reduceLE, BitVec.reduceEq, BitVec.reduceToNat, BitVec.reduceToInt, BitVec.reduceOfInt, BitVec.reduceSetWidth, BitVec.reduceAnd, BitVec.reduceOr, BitVec.reduceXOr, BitVec.reduceNot, BitVec.reduceHShiftLeft, BitVec.reduceHShiftRight]
              refine ⟨k + 1, by omega, Wk_p [] ?_, by omega⟩
              simp only [go_sem, σap, e1, hls, hst, reduceIte, Nat.reduceAdd, Nat.reduceSub, Nat.reduceMul, Nat.reduceDiv, Nat.reduceMod, Nat.reducePow, Nat.reduceLT, Nat.reduceLeDiff, Nat.reduceBEq, Nat.reduceEqDiff, Nat.reduceAnd, Int.reduceLT, Int.reduceLE, Int.reduceEq, Int.reduceAdd, Int.reduceSub, Int.reduceMul, Int.reduceDiv, Int.reduceMod, Int.reducePow, Int.reduceToNat, Int.reduceNatCast, Int.reduceNeg, BitVec.reduceAdd, BitVec.reduceSub, BitVec.reduceMul, BitVec.reduceUDiv, BitVec.reduceUMod, BitVec.reduceDiv, BitVec.reduceMod, BitVec.reduceLT, BitVec.reduceLE, BitVec.reduceEq, BitVec.reduceToNat, BitVec.reduceToInt, BitVec.reduceOfInt, BitVec.reduceSetWidth, BitVec.reduceAnd, BitVec.reduceOr, BitVec.reduceXOr, BitVec.reduceNot, BitVec.reduceHShiftLeft, BitVec.reduceHShiftRight]
              simp
              exact fun _ => hk2
            · refine AW_run hct 1000 ?_
              simp (maxSteps := 10000000) (disch := omega) only [go_sem, σap, ctLive9, ctRMayL, ctCountL, ctCount, ctSplit, ctRSets, hd', hat, hbn, hw, ga, gb, one_shl, one_shl', hlt, hst, la, lb, hk2, decide_false, reduceIte, Nat.reduceAdd, Nat.reduceSub, Nat.reduceMul, Nat.reduceDiv, Nat.reduceMod, Nat.reducePow, Nat.reduceLT, Nat.reduceLeDiff, Nat.reduceBEq, Nat.reduceEqDiff, Nat.reduceAnd, Int.reduceLT, Int.reduceLE, Int.reduceEq, Int.reduceAdd, Int.reduceSub, Int.reduceMul, Int.reduceDiv, Int.reduceMod, Int.reducePow, Int.reduceToNat, Int.reduceNatCast, Int.reduceNeg, BitVec.reduceAdd, BitVec.reduceSub, BitVec.reduceMul, BitVec.reduceUDiv, BitVec.reduceUMod, BitVec.reduceDiv, BitVec.reduceMod, BitVec.reduceLT, BitVec.reduceLE, BitVec.reduceEq, BitVec.reduceToNat, BitVec.reduceToInt, BitVec.reduceOfInt, BitVec.reduceSetWidth, BitVec.reduceAnd, BitVec.reduceOr, BitVec.reduceXOr, BitVec.reduceNot, BitVec.reduceHShiftLeft, BitVec.reduceHShiftRight]
              refine ⟨k + 1, by omega, Wk_p [] ?_, by omega⟩
              simp only [go_sem, σap, e1, hls, hst, reduceIte, Nat.reduceAdd, Nat.reduceSub, Nat.reduceMul, Nat.reduceDiv, Nat.reduceMod, Nat.reducePow, Nat.reduceLT, Nat.reduceLeDiff, Nat.reduceBEq, Nat.reduceEqDiff, Nat.reduceAnd, Int.reduceLT, Int.reduceLE, Int.reduceEq, Int.reduceAdd, Int.reduceSub, Int.reduceMul, Int.reduceDiv, Int.reduceMod, Int.reducePow, Int.reduceToNat, Int.reduceNatCast, Int.reduceNeg, BitVec.reduceAdd, BitVec.reduceSub, BitVec.reduceMul, BitVec.reduceUDiv, BitVec.reduceUMod, BitVec.reduceDiv, BitVec.reduceMod, BitVec.reduceLT, BitVec.reduceLE, BitVec.reduceEq, BitVec.reduceToNat, BitVec.reduceToInt, BitVec.reduceOfInt, BitVec.reduceSetWidth, BitVec.reduceAnd, BitVec.reduceOr, BitVec.reduceXOr, BitVec.reduceNot, BitVec.reduceHShiftLeft, BitVec.reduceHShiftRight]
              simp
              exact fun h => absurd h hk2
          · have : k = ls.length := by omega
            subst this
            have hd' : ¬ ((ls.length : Int) < ls.length) := by omega
            have hal := like_all ls a b h60 ha hb
            refine AW_run hct 1000 ?_
            simp (maxSteps := 10000000) (disch := omega) only [go_sem, σap, ctLive9, ctRMayL, ctCountL, ctCount, ctSplit, ctRSets, hd', hal, Nat.sub_self, BitVec.ushiftRight_zero, decide_true, reduceIte, Nat.reduceAdd, Nat.reduceSub, Nat.reduceMul, Nat.reduceDiv, Nat.reduceMod, Nat.reducePow, Nat.reduceLT, Nat.reduceLeDiff, Nat.reduceBEq, Nat.reduceEqDiff, Nat.reduceAnd, Int.reduceLT, Int.reduceLE, Int.reduceEq, Int.reduceAdd, Int.reduceSub, Int.reduceMul, Int.reduceDiv, Int.reduceMod, Int.reducePow, Int.reduceToNat, Int.reduceNatCast, Int.reduceNeg, BitVec.reduceAdd, BitVec.reduceSub, BitVec.reduceMul, BitVec.reduceUDiv, BitVec.reduceUMod, BitVec.reduceDiv, BitVec.reduceMod, BitVec.reduceLT, BitVec.reduceLE, BitVec.reduceEq, BitVec.reduceToNat, BitVec.reduceToInt, BitVec.reduceOfInt, BitVec.reduceSetWidth, BitVec.reduceAnd, BitVec.reduceOr, BitVec.reduceXOr, BitVec.reduceNot, BitVec.reduceHShiftLeft, BitVec.reduceHShiftRight]
            try simp
      · have sb2 : splitE ls b = 80 := by rw [splitE, if_pos hm, if_neg hb]
        have hb' : (pw (hs ls ls.length) ≤ b) := by rw [BitVec.le_def]; rw [BitVec.lt_def] at hb; omega
        refine AW_run hct 1000 ?_
        simp (maxSteps := 10000000) (disch := omega) only [go_sem, c5, ctLive9, ctRMayL, ctCountL, ctCount, ctSplit, ctRSets, eq_true hm, decide_true, sa1, sa2, sb2, ha', hb', reduceIte, Nat.reduceAdd, Nat.reduceSub, Nat.reduceMul, Nat.reduceDiv, Nat.reduceMod, Nat.reducePow, Nat.reduceLT, Nat.reduceLeDiff, Nat.reduceBEq, Nat.reduceEqDiff, Nat.reduceAnd, Int.reduceLT, Int.reduceLE, Int.reduceEq, Int.reduceAdd, Int.reduceSub, Int.reduceMul, Int.reduceDiv, Int.reduceMod, Int.reducePow, Int.reduceToNat, Int.reduceNatCast, Int.reduceNeg, BitVec.reduceAdd, BitVec.reduceSub, BitVec.reduceMul, BitVec.reduceUDiv, BitVec.reduceUMod, BitVec.reduceDiv, BitVec.reduceMod, BitVec.reduceLT, BitVec.reduceLE, BitVec.reduceEq, BitVec.reduceToNat, BitVec.reduceToInt, BitVec.reduceOfInt, BitVec.reduceSetWidth, BitVec.reduceAnd, BitVec.reduceOr, BitVec.reduceXOr, BitVec.reduceNot, BitVec.reduceHShiftLeft, BitVec.reduceHShiftRight]
        try simp
    · have sa2 : splitE ls a = 80 := by rw [splitE, if_pos hm, if_neg ha]
      have ha' : (pw (hs ls ls.length) ≤ a) := by rw [BitVec.le_def]; rw [BitVec.lt_def] at ha; omega
      refine AW_run hct 1000 ?_
      simp (maxSteps := 10000000) (disch := omega) only [go_sem, c5, ctLive9, ctRMayL, ctCountL, ctCount, ctSplit, ctRSets, eq_true hm, decide_true, sa2, ha', reduceIte, Nat.reduceAdd, Nat.reduceSub, Nat.reduceMul, Nat.reduceDiv, Nat.reduceMod, Nat.reducePow, Nat.reduceLT, Nat.reduceLeDiff, Nat.reduceBEq, Nat.reduceEqDiff, Nat.reduceAnd, Int.reduceLT, Int.reduceLE, Int.reduceEq, Int.reduceAdd, Int.reduceSub, Int.reduceMul, Int.reduceDiv, Int.reduceMod, Int.reducePow, Int.reduceToNat, Int.reduceNatCast, Int.reduceNeg, BitVec.reduceAdd, BitVec.reduceSub, BitVec.reduceMul, BitVec.reduceUDiv, BitVec.reduceUMod, BitVec.reduceDiv, BitVec.reduceMod, BitVec.reduceLT, BitVec.reduceLE, BitVec.reduceEq, BitVec.reduceToNat, BitVec.reduceToInt, BitVec.reduceOfInt, BitVec.reduceSetWidth, BitVec.reduceAnd, BitVec.reduceOr, BitVec.reduceXOr, BitVec.reduceNot, BitVec.reduceHShiftLeft, BitVec.reduceHShiftRight]
      try simp
  · have sa2 : splitE ls a = 90 := by rw [splitE, if_neg hm]
    refine AW_run hct 1000 ?_
    simp (maxSteps := 10000000) (disch := omega) only [go_sem, c5, ctLive9, ctRMayL, ctCountL, ctCount, ctSplit, ctRSets, hm, decide_false, sa2, reduceIte, Nat.reduceAdd, Nat.reduceSub, Nat.reduceMul, Nat.reduceDiv, Nat.reduceMod, Nat.reducePow, Nat.reduceLT, Nat.reduceLeDiff, Nat.reduceBEq, Nat.reduceEqDiff, Nat.reduceAnd, Int.reduceLT, Int.reduceLE, Int.reduceEq, Int.reduceAdd, Int.reduceSub, Int.reduceMul, Int.reduceDiv, Int.reduceMod, Int.reducePow, Int.reduceToNat, Int.reduceNatCast, Int.reduceNeg, BitVec.reduceAdd, BitVec.reduceSub, BitVec.reduceMul, BitVec.reduceUDiv, BitVec.reduceUMod, BitVec.reduceDiv, BitVec.reduceMod, BitVec.reduceLT, BitVec.reduceLE, BitVec.reduceEq, BitVec.reduceToNat, BitVec.reduceToInt, BitVec.reduceOfInt, BitVec.reduceSetWidth, BitVec.reduceAnd, BitVec.reduceOr, BitVec.reduceXOr, BitVec.reduceNot, BitVec.reduceHShiftLeft, BitVec.reduceHShiftRight]
    try simp
theorem HApart_f (ls : List Level) (a b : BitVec 64) (hl : ls.length ≤ 140737488351232) : Fun Try.prog [] 5 [.ros false ls.length (lvc ls), Enc.enc a, Enc.enc b] (.b true) := HApart_fun ⟨ls⟩ a b hl
end Go.Lv
