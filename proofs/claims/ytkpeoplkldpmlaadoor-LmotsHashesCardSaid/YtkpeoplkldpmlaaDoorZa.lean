/- A part of the proof. -/
import Derived.Test.YtkpeoplkldpmlaaDoorGS
import Derived.Test.YtkpeoplkldpmlaaDoorTl
import Derived.Test.YtkpeoplkldpmlaaDoorGW
import Derived.Test.YtkpeoplkldpmlaaDoorGU
import Derived.Test.YtkpeoplkldpmlaaDoorGK
import Derived.Test.YtkpeoplkldpmlaaDoorKpliverylaw07
set_option linter.all false
namespace Go.Lv
open Go Go.Proofs
set_option linter.unusedSimpArgs false
set_option maxRecDepth 100000

/-! ## A set's sum -/
def hsumS (sh : Bool) (n : Nat) (t : List (BitVec 8)) : List (BitVec 8) := if sh then shakeS 256 n t else (sha256S t).take n
theorem hsumS_len (sh : Bool) (n : Nat) (t : List (BitVec 8)) (hn : n ≤ 32) : (hsumS sh n t).length = n := by
  unfold hsumS
  split
  · exact shakeS_len _ _ _
  · rw [List.length_take, sha256S_len]; omega
/-- the sum by a set -/
def hO (o : Ots) (t : List (BitVec 8)) : List (BitVec 8) := hsumS o.shake o.n.toNat t
theorem hO_len {o : Ots} (ho : OtsOK o) (t : List (BitVec 8)) : ((hO o t).length : Int) = o.n := by
  have := ho.n
  rw [hO, hsumS_len _ _ _ (by omega)]; omega
def HashR (o : Ots) (t : List (BitVec 8)) : AV := if otsT o.code = some o then Enc.ret (hO o t) else .ros true 0 []
set_option maxHeartbeats 1000000 in
theorem Hash_fun (o : Ots) (ps : List (List (BitVec 8))) (hp : bbOK ps) (hl : ps.flatten.length ≤ 4611686018427387904) : Fun Tryd.prog Gs 28 [Enc.enc o, Enc.enc ps] (HashR o ps.flatten) := by
  refine Fun_cc [ctMay, ctShake, ctSum256] mo Tryd.func28 (by decide) cc28 rs28 Tryd.ntmps28 (by simp) ?_
  have hct := ctMay_ok (ctShake_ok (ctSum256_ok CtOK_nil))
  obtain ⟨oc, sh, on, ow, op, ol⟩ := o
  by_cases h : otsT oc = some ⟨oc, sh, on, ow, op, ol⟩
  · have hn := (otsT_ok h).n
    obtain ⟨n, hn'⟩ := Int.eq_ofNat_of_zero_le (show 0 ≤ on by simp only at hn; omega)
    simp only at hn
    have h1 : ¬ on < 0 := by omega
    have h2 : ¬ (1048576 < on) := by omega
    have hsl := sha256S_len ps.flatten
    have hst : (sha256S ps.flatten).take 32 = sha256S ps.flatten := List.take_of_length_le (by omega)
    have hR : HashR ⟨oc, sh, on, ow, op, ol⟩ ps.flatten = Enc.ret (hsumS sh n ps.flatten) := by rw [HashR, if_pos h, hO]; simp only [hn', Int.toNat_natCast]
    have hnn : on.toNat = n := by omega
    have hln := hsumS_len sh n ps.flatten (by omega)
    rw [hR]
    refine AW_run hct 1000 ?_
    cases sh
    · have hif : hsumS false n ps.flatten = (sha256S ps.flatten).take n := rfl
      rw [hif] at hln
      simp (maxSteps := 10000000) (disch := omega) only [go_sem, c28, ctMay, ctShake, ctSum256, otsMay, h, hp, hl, hsl, hst, hnn, z32b, hif, hln, reduceIte, seval, -BitVec.isValue, -BitVec.reduceOfNat, -List.reduceReplicate]
      have hz : List.drop 32 (List.replicate 32 (0 : BitVec 8)) = [] := rfl
      try rw [Nat.sub_zero, hz, List.append_nil]
    · have hif : hsumS true n ps.flatten = shakeS 256 n ps.flatten := rfl
      rw [hif] at hln
      simp (maxSteps := 10000000) (disch := omega) only [go_sem, c28, ctMay, ctShake, ctSum256, otsMay, h, hp, ShakeR, h1, h2, hnn, hif, hln, reduceIte, seval, -BitVec.isValue, -BitVec.reduceOfNat, -List.reduceReplicate]
  · have hR : HashR ⟨oc, sh, on, ow, op, ol⟩ ps.flatten = .ros true 0 [] := by rw [HashR, if_neg h]
    rw [hR]
    refine AW_run hct 1000 ?_
    simp (maxSteps := 10000000) (disch := omega) only [go_sem, c28, ctMay, ctShake, ctSum256, otsMay, h, reduceIte, seval, -BitVec.isValue, -BitVec.reduceOfNat, -List.reduceReplicate]
def ctHash : Nat × (List AV → R) := (28, A2 fun (o : Ots) (ps : List (List (BitVec 8))) => (bbOK ps ∧ ps.flatten.length ≤ 4611686018427387904, HashR o ps.flatten))
theorem ctHash_ok {Ct : List (Nat × (List AV → R))} (h : CtOK Tryd.prog Gs Ct) : CtOK Tryd.prog Gs (ctHash :: Ct) := CtOK_cons (Row2 fun o ps h => Hash_fun o ps h.1 h.2) h

theorem RSum_fun (sh : Bool) (n : Int) (t : List (BitVec 8)) (hn : 0 ≤ n ∧ n ≤ 32) (ht : t.length ≤ 1000000000) : Fun Tryd.prog Gs 31 [Enc.enc sh, Enc.enc n, Enc.enc t] (Enc.ret (hsumS sh n.toNat t)) := by
  refine Fun_cc [ctRShake, ctRSum256] mo Tryd.func31 (by decide) cc31 rs31 Tryd.ntmps31 (by simp) ?_
  have hct := ctRShake_ok (ctRSum256_ok CtOK_nil)
  refine AW_run hct 1000 ?_
  have hsl := sha256S_len t
  obtain ⟨h1, h2⟩ := hn
  obtain ⟨n, rfl⟩ := Int.eq_ofNat_of_zero_le h1
  cases sh
  · simp (maxSteps := 10000000) (disch := omega) only [go_sem, c31, ctRShake, ctRSum256, hsl, reduceIte, seval, -BitVec.isValue, -BitVec.reduceOfNat, -List.reduceReplicate]
    simp [hsumS, ret_l, sha256S_len]
    omega
  · simp (maxSteps := 10000000) (disch := omega) only [go_sem, c31, ctRShake, ctRSum256, reduceIte, seval, -BitVec.isValue, -BitVec.reduceOfNat, -List.reduceReplicate]
    simp [hsumS, ret_l]
def ctRSum : Nat × (List AV → R) := (31, A3 fun (sh : Bool) (n : Int) (t : List (BitVec 8)) => (0 ≤ n ∧ n ≤ 32 ∧ t.length ≤ 1000000000, Enc.ret (hsumS sh n.toNat t)))
theorem ctRSum_ok {Ct : List (Nat × (List AV → R))} (h : CtOK Tryd.prog Gs Ct) : CtOK Tryd.prog Gs (ctRSum :: Ct) := CtOK_cons (Row3 fun sh n t h => RSum_fun sh n t ⟨h.1, h.2.1⟩ h.2.2) h

/-! ## LmotsHashes -/
def σlh (code : BitVec 32) (ps : List (List (BitVec 8))) (k : Nat) : St := ⟨[(0, .u32 code), (1, Enc.enc ps), (5, .i (ps.take k).flatten.length), (18, Enc.enc ps), (19, .i ps.length), (20, .i k)], [], 0⟩
theorem setS_ok (code : BitVec 32) : OtsOK (setS code) := by
  unfold setS
  split
  · exact otsT_ok (by assumption)
  · exact ⟨.inr (.inr (.inl rfl)), .inr rfl, ⟨by simp, by simp⟩, ⟨by simp, by simp⟩, by simp, by simp⟩
set_option maxHeartbeats 2000000 in
theorem LHashes_fun (code : BitVec 32) (ps : List (List (BitVec 8))) (hq : ∀ x ∈ ps, x.length ≤ 140737488351232) (hp : ps.length ≤ 140737488351232) : Fun Tryd.prog Gs 3 [Enc.enc code, Enc.enc ps] (.b true) := by
  refine Fun_cc [ctLive, ctSet, ctHash, ctRMayOts, ctJoin, ctRSum, ctEqual] mo Tryd.func3 (by decide) cc3 rs3 Tryd.ntmps3 (by simp) ?_
  have hct := ctLive_ok (ctSet_ok (ctHash_ok (ctRMayOts_ok (ctJoin_ok (ctRSum_ok (ctEqual_ok CtOK_nil))))))
  refine AW_run hct 1000 ?_
  by_cases h100 : (100 : Int) < ps.length
  · simp (maxSteps := 10000000) (disch := omega) only [go_sem, c3, ctLive, ctSet, ctHash, ctRMayOts, ctJoin, ctRSum, ctEqual, h100, reduceIte, seval, -BitVec.isValue, -BitVec.reduceOfNat, -List.reduceReplicate]
  · simp (maxSteps := 10000000) (disch := omega) only [go_sem, c3, ctLive, ctSet, ctHash, ctRMayOts, ctJoin, ctRSum, ctEqual, h100, reduceIte, seval, -BitVec.isValue, -BitVec.reduceOfNat, -List.reduceReplicate]
    refine AW_loop (σlh code ps) (fun k => k ≤ ps.length ∧ (ps.take k).flatten.length ≤ 2000) (fun k => ps.length - k) 0 ⟨Nat.zero_le _, by simp⟩ (Wk_p [] ?_) fun k hk => ?_
    · simp only [go_sem, σlh, reduceIte, seval, -BitVec.isValue, -BitVec.reduceOfNat, -List.reduceReplicate]
      simp
    · obtain ⟨hk, h2⟩ := hk
      refine AW_ct [ctLive, ctSet, ctHash, ctRMayOts, ctJoin, ctRSum, ctEqual] (AW_run hct 1000 ?_)
      by_cases hd : k < ps.length
      · have hd' : (k : Int) < ps.length := by omega
        have hf := take_flat ps k hd
        have hl := congrArg List.length hf
        rw [List.length_append] at hl
        have hql := hq (ps.getD k []) (by simp [List.getD_eq_getElem?_getD, hd])
        by_cases h2k : 2000 < (ps.take (k + 1)).flatten.length
        · have h2k' : (2000 : Int) < (ps.take k).flatten.length + (ps.getD k []).length := by omega
          simp (maxSteps := 10000000) (disch := omega) only [go_sem, σlh, hd', h2k', ctLive, ctSet, ctHash, ctRMayOts, ctJoin, ctRSum, ctEqual, reduceIte, seval, -BitVec.isValue, -BitVec.reduceOfNat, -List.reduceReplicate]
        · have h2k' : ¬ (2000 : Int) < (ps.take k).flatten.length + (ps.getD k []).length := by omega
          simp (maxSteps := 10000000) (disch := omega) only [go_sem, σlh, hd', h2k', ctLive, ctSet, ctHash, ctRMayOts, ctJoin, ctRSum, ctEqual, reduceIte, seval, -BitVec.isValue, -BitVec.reduceOfNat, -List.reduceReplicate]
          refine ⟨k + 1, ⟨by omega, by omega⟩, Wk_p [] ?_, by omega⟩
          have e : (((ps.take k).flatten.length : Int) + (ps.getD k []).length) = ((ps.take (k + 1)).flatten.length : Nat) := by omega
          simp only [go_sem, σlh, e, reduceIte, seval, -BitVec.isValue, -BitVec.reduceOfNat, -List.reduceReplicate]
          simp
      · have hge : k = ps.length := by omega
        subst hge
        rw [List.take_length] at h2
        have hd' : ¬ ((ps.length : Int) < ps.length) := by omega
        have hO := (setS_ok code).n
        have hlen := hO_len (setS_ok code) ps.flatten
        have hbb : bbOK ps := ⟨hp, hq⟩
        obtain ⟨o, ho⟩ : ∃ o, o = setS code := ⟨_, rfl⟩
        rw [← ho] at hO hlen
        by_cases h : otsT o.code = some o
        · have hH : HashR o ps.flatten = Enc.ret (hsumS o.shake o.n.toNat ps.flatten) := by rw [HashR, if_pos h]; rfl
          simp (maxSteps := 10000000) (disch := omega) only [go_sem, σlh, hd', ← ho, h, hH, hbb, ctLive, ctSet, ctHash, ctRMayOts, ctJoin, ctRSum, ctEqual, reduceIte, seval, -BitVec.isValue, -BitVec.reduceOfNat, -List.reduceReplicate]
        · have hH : HashR o ps.flatten = .ros true 0 [] := by rw [HashR, if_neg h]
          simp (maxSteps := 10000000) (disch := omega) only [go_sem, σlh, hd', ← ho, h, hH, hbb, ctLive, ctSet, ctHash, ctRMayOts, ctJoin, ctRSum, ctEqual, reduceIte, seval, -BitVec.isValue, -BitVec.reduceOfNat, -List.reduceReplicate]
end Go.Lv
