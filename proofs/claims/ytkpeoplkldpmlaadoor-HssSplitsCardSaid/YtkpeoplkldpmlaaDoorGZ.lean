/- A part of the proof (GZ). -/
import Derived.Test.YtkpeoplkldpmlaaDoorGS
import Derived.Test.YtkpeoplkldpmlaaDoorTl
import Derived.Test.YtkpeoplkldpmlaaDoorGW
import Derived.Test.YtkpeoplkldpmlaaDoorGU
import Derived.Test.YtkpeoplkldpmlaaDoorGK
import Derived.Test.YtkpeoplkldpmlaaDoorKpliverylaw07
import Derived.Test.YtkpeoplkldpmlaaDoorFE
import Derived.Test.YtkpeoplkldpmlaaDoorGT
set_option linter.all false
namespace Go.Lv
open Go Go.Proofs
set_option linter.unusedSimpArgs false
set_option maxRecDepth 100000

/-! ## A set's sum -/
def hsumS (sh : Bool) (n : Nat) (t : List (BitVec 8)) : List (BitVec 8) := if sh then shakeS 256 n t else (sha256S t).take n
theorem hsumS_len (sh : Bool) (n : Nat) (t : List (BitVec 8)) (hn : n ≤ 32) : (hsumS sh n t).length = n := by
  unfold hsumS
  split
  · exact shakeS_len _ _ _
  · rw [List.length_take, sha256S_len]; omega
/-- the sum by a set -/
def hO (o : Ots) (t : List (BitVec 8)) : List (BitVec 8) := hsumS o.shake o.n.toNat t
theorem hO_len {o : Ots} (ho : OtsOK o) (t : List (BitVec 8)) : ((hO o t).length : Int) = o.n := by
  have := ho.n
  rw [hO, hsumS_len _ _ _ (by omega)]; omega
def HashR (o : Ots) (t : List (BitVec 8)) : AV := if otsT o.code = some o then Enc.ret (hO o t) else .ros true 0 []
set_option maxHeartbeats 1000000 in
theorem Hash_fun (o : Ots) (ps : List (List (BitVec 8))) (hp : bbOK ps) (hl : ps.flatten.length ≤ 4611686018427387904) : Fun Tryd.prog Gs 28 [Enc.enc o, Enc.enc ps] (HashR o ps.flatten) := by
  refine Fun_cc [ctMay, ctShake, ctSum256] mo Tryd.func28 (by decide) cc28 rs28 Tryd.ntmps28 (by simp) ?_
  have hct := ctMay_ok (ctShake_ok (ctSum256_ok CtOK_nil))
  obtain ⟨oc, sh, on, ow, op, ol⟩ := o
  by_cases h : otsT oc = some ⟨oc, sh, on, ow, op, ol⟩
  · have hn := (otsT_ok h).n
    obtain ⟨n, hn'⟩ := Int.eq_ofNat_of_zero_le (show 0 ≤ on by simp only at hn; omega)
    simp only at hn
    have h1 : ¬ on < 0 := by omega
    have h2 : ¬ (1048576 < on) := by omega
    have hsl := sha256S_len ps.flatten
    have hst : (sha256S ps.flatten).take 32 = sha256S ps.flatten := List.take_of_length_le (by omega)
    have hR : HashR ⟨oc, sh, on, ow, op, ol⟩ ps.flatten = Enc.ret (hsumS sh n ps.flatten) := by rw [HashR, if_pos h, hO]; simp only [hn', Int.toNat_natCast]
    have hnn : on.toNat = n := by omega
    have hln := hsumS_len sh n ps.flatten (by omega)
    rw [hR]
    refine AW_run hct 1000 ?_
    cases sh
    · have hif : hsumS false n ps.flatten = (sha256S ps.flatten).take n := rfl
      rw [hif] at hln
      simp (maxSteps := 10000000) (disch := omega) only [go_sem, c28, ctMay, ctShake, ctSum256, otsMay, h, hp, hl, hsl, hst, hnn, z32b, hif, hln, reduceIte, seval, -BitVec.isValue, -BitVec.reduceOfNat, -List.reduceReplicate]
      have hz : List.drop 32 (List.replicate 32 (0 : BitVec 8)) = [] := rfl
      try rw [Nat.sub_zero, hz, List.append_nil]
    · have hif : hsumS true n ps.flatten = shakeS 256 n ps.flatten := rfl
      rw [hif] at hln
      simp (maxSteps := 10000000) (disch := omega) only [go_sem, c28, ctMay, ctShake, ctSum256, otsMay, h, hp, ShakeR, h1, h2, hnn, hif, hln, reduceIte, seval, -BitVec.isValue, -BitVec.reduceOfNat, -List.reduceReplicate]
  · have hR : HashR ⟨oc, sh, on, ow, op, ol⟩ ps.flatten = .ros true 0 [] := by rw [HashR, if_neg h]
    rw [hR]
    refine AW_run hct 1000 ?_
    simp (maxSteps := 10000000) (disch := omega) only [go_sem, c28, ctMay, ctShake, ctSum256, otsMay, h, reduceIte, seval, -BitVec.isValue, -BitVec.reduceOfNat, -List.reduceReplicate]
def ctHash : Nat × (List AV → R) := (28, A2 fun (o : Ots) (ps : List (List (BitVec 8))) => (bbOK ps ∧ ps.flatten.length ≤ 4611686018427387904, HashR o ps.flatten))
theorem ctHash_ok {Ct : List (Nat × (List AV → R))} (h : CtOK Tryd.prog Gs Ct) : CtOK Tryd.prog Gs (ctHash :: Ct) := CtOK_cons (Row2 fun o ps h => Hash_fun o ps h.1 h.2) h

theorem RSum_fun (sh : Bool) (n : Int) (t : List (BitVec 8)) (hn : 0 ≤ n ∧ n ≤ 32) (ht : t.length ≤ 1000000000) : Fun Tryd.prog Gs 31 [Enc.enc sh, Enc.enc n, Enc.enc t] (Enc.ret (hsumS sh n.toNat t)) := by
  refine Fun_cc [ctRShake, ctRSum256] mo Tryd.func31 (by decide) cc31 rs31 Tryd.ntmps31 (by simp) ?_
  have hct := ctRShake_ok (ctRSum256_ok CtOK_nil)
  refine AW_run hct 1000 ?_
  have hsl := sha256S_len t
  obtain ⟨h1, h2⟩ := hn
  obtain ⟨n, rfl⟩ := Int.eq_ofNat_of_zero_le h1
  cases sh
  · simp (maxSteps := 10000000) (disch := omega) only [go_sem, c31, ctRShake, ctRSum256, hsl, reduceIte, seval, -BitVec.isValue, -BitVec.reduceOfNat, -List.reduceReplicate]
    simp [hsumS, ret_l, sha256S_len]
    omega
  · simp (maxSteps := 10000000) (disch := omega) only [go_sem, c31, ctRShake, ctRSum256, reduceIte, seval, -BitVec.isValue, -BitVec.reduceOfNat, -List.reduceReplicate]
    simp [hsumS, ret_l]
def ctRSum : Nat × (List AV → R) := (31, A3 fun (sh : Bool) (n : Int) (t : List (BitVec 8)) => (0 ≤ n ∧ n ≤ 32 ∧ t.length ≤ 1000000000, Enc.ret (hsumS sh n.toNat t)))
theorem ctRSum_ok {Ct : List (Nat × (List AV → R))} (h : CtOK Tryd.prog Gs Ct) : CtOK Tryd.prog Gs (ctRSum :: Ct) := CtOK_cons (Row3 fun sh n t h => RSum_fun sh n t ⟨h.1, h.2.1⟩ h.2.2) h

/-! ## LmotsHashes -/
def σlh (code : BitVec 32) (ps : List (List (BitVec 8))) (k : Nat) : St := ⟨[(0, .u32 code), (1, Enc.enc ps), (5, .i (ps.take k).flatten.length), (18, Enc.enc ps), (19, .i ps.length), (20, .i k)], [], 0⟩
theorem setS_ok (code : BitVec 32) : OtsOK (setS code) := by
  unfold setS
  split
  · exact otsT_ok (by assumption)
  · exact ⟨.inr (.inr (.inl rfl)), .inr rfl, ⟨by simp, by simp⟩, ⟨by simp, by simp⟩, by simp, by simp⟩
set_option maxHeartbeats 2000000 in
theorem LHashes_fun (code : BitVec 32) (ps : List (List (BitVec 8))) (hq : ∀ x ∈ ps, x.length ≤ 140737488351232) (hp : ps.length ≤ 140737488351232) : Fun Tryd.prog Gs 3 [Enc.enc code, Enc.enc ps] (.b true) := by
  refine Fun_cc [ctLive, ctSet, ctHash, ctRMayOts, ctJoin, ctRSum, ctEqual] mo Tryd.func3 (by decide) cc3 rs3 Tryd.ntmps3 (by simp) ?_
  have hct := ctLive_ok (ctSet_ok (ctHash_ok (ctRMayOts_ok (ctJoin_ok (ctRSum_ok (ctEqual_ok CtOK_nil))))))
  refine AW_run hct 1000 ?_
  by_cases h100 : (100 : Int) < ps.length
  · simp (maxSteps := 10000000) (disch := omega) only [go_sem, c3, ctLive, ctSet, ctHash, ctRMayOts, ctJoin, ctRSum, ctEqual, h100, reduceIte, seval, -BitVec.isValue, -BitVec.reduceOfNat, -List.reduceReplicate]
  · simp (maxSteps := 10000000) (disch := omega) only [go_sem, c3, ctLive, ctSet, ctHash, ctRMayOts, ctJoin, ctRSum, ctEqual, h100, reduceIte, seval, -BitVec.isValue, -BitVec.reduceOfNat, -List.reduceReplicate]
    refine AW_loop (σlh code ps) (fun k => k ≤ ps.length ∧ (ps.take k).flatten.length ≤ 2000) (fun k => ps.length - k) 0 ⟨Nat.zero_le _, by simp⟩ (Wk_p [] ?_) fun k hk => ?_
    · simp only [go_sem, σlh, reduceIte, seval, -BitVec.isValue, -BitVec.reduceOfNat, -List.reduceReplicate]
      simp
    · obtain ⟨hk, h2⟩ := hk
      refine AW_ct [ctLive, ctSet, ctHash, ctRMayOts, ctJoin, ctRSum, ctEqual] (AW_run hct 1000 ?_)
      by_cases hd : k < ps.length
      · have hd' : (k : Int) < ps.length := by omega
        have hf := take_flat ps k hd
        have hl := congrArg List.length hf
        rw [List.length_append] at hl
        have hql := hq (ps.getD k []) (by simp [List.getD_eq_getElem?_getD, hd])
        by_cases h2k : 2000 < (ps.take (k + 1)).flatten.length
        · have h2k' : (2000 : Int) < (ps.take k).flatten.length + (ps.getD k []).length := by omega
          simp (maxSteps := 10000000) (disch := omega) only [go_sem, σlh, hd', h2k', ctLive, ctSet, ctHash, ctRMayOts, ctJoin, ctRSum, ctEqual, reduceIte, seval, -BitVec.isValue, -BitVec.reduceOfNat, -List.reduceReplicate]
        · have h2k' : ¬ (2000 : Int) < (ps.take k).flatten.length + (ps.getD k []).length := by omega
          simp (maxSteps := 10000000) (disch := omega) only [go_sem, σlh, hd', h2k', ctLive, ctSet, ctHash, ctRMayOts, ctJoin, ctRSum, ctEqual, reduceIte, seval, -BitVec.isValue, -BitVec.reduceOfNat, -List.reduceReplicate]
          refine ⟨k + 1, ⟨by omega, by omega⟩, Wk_p [] ?_, by omega⟩
          have e : (((ps.take k).flatten.length : Int) + (ps.getD k []).length) = ((ps.take (k + 1)).flatten.length : Nat) := by omega
          simp only [go_sem, σlh, e, reduceIte, seval, -BitVec.isValue, -BitVec.reduceOfNat, -List.reduceReplicate]
          simp
      · have hge : k = ps.length := by omega
        subst hge
        rw [List.take_length] at h2
        have hd' : ¬ ((ps.length : Int) < ps.length) := by omega
        have hO := (setS_ok code).n
        have hlen := hO_len (setS_ok code) ps.flatten
        have hbb : bbOK ps := ⟨hp, hq⟩
        obtain ⟨o, ho⟩ : ∃ o, o = setS code := ⟨_, rfl⟩
        rw [← ho] at hO hlen
        by_cases h : otsT o.code = some o
        · have hH : HashR o ps.flatten = Enc.ret (hsumS o.shake o.n.toNat ps.flatten) := by rw [HashR, if_pos h]; rfl
          simp (maxSteps := 10000000) (disch := omega) only [go_sem, σlh, hd', ← ho, h, hH, hbb, ctLive, ctSet, ctHash, ctRMayOts, ctJoin, ctRSum, ctEqual, reduceIte, seval, -BitVec.isValue, -BitVec.reduceOfNat, -List.reduceReplicate]
        · have hH : HashR o ps.flatten = .ros true 0 [] := by rw [HashR, if_neg h]
          simp (maxSteps := 10000000) (disch := omega) only [go_sem, σlh, hd', ← ho, h, hH, hbb, ctLive, ctSet, ctHash, ctRMayOts, ctJoin, ctRSum, ctEqual, reduceIte, seval, -BitVec.isValue, -BitVec.reduceOfNat, -List.reduceReplicate]
end Go.Lv

namespace Go.Lv
open Go Go.Proofs
set_option linter.unusedSimpArgs false
set_option maxRecDepth 100000

/-! ## The code's Join -/
def σoj1 (ps : List (List (BitVec 8))) (k : Nat) : St := ⟨[(0, Enc.enc ps), (3, .i (ps.take k).flatten.length), (9, Enc.enc ps), (10, .i ps.length), (11, .i k)], [], 0⟩
def σoj2 (ps : List (List (BitVec 8))) (k : Nat) : St := ⟨[(6, .sl 0 0 (ps.take k).flatten.length 1), (22, Enc.enc ps), (23, .i ps.length), (24, .i k)], [(0, ⟨(ps.take k).flatten.map .u8, true⟩)], 1⟩
set_option maxHeartbeats 1000000 in
theorem OJoin_funG (ps : List (List (BitVec 8))) (h0 : ps.length ≤ 140737488351232) (h : ps.flatten.length ≤ 140737488351232) : FunG Tryd.prog Gs 108 [Enc.enc ps] [] (.sl 0 0 ps.flatten.length 1) [(0, ⟨ps.flatten.map .u8, true⟩)] := by
  refine FunG_cc [] [] 0 mo Tryd.func108 (by decide) cc108 rs108 Tryd.ntmps108 (by simp) rfl (by simp) rfl ?_
  refine AW_run CtOK_nil 1000 ?_
  simp (maxSteps := 10000000) (disch := omega) only [go_sem, c108, reduceIte, seval, -BitVec.isValue, -BitVec.reduceOfNat, -List.reduceReplicate]
  refine AW_loop (σoj1 ps) (fun k => k ≤ ps.length) (fun k => ps.length - k) 0 (Nat.zero_le _) (Wk_d [] (by simp) ?_) fun k hk => ?_
  · simp only [go_sem, σoj1, reduceIte, seval, -BitVec.isValue, -BitVec.reduceOfNat, -List.reduceReplicate]
    try simp
  · refine AW_run CtOK_nil 1000 ?_
    by_cases hd : k < ps.length
    · have hd' : (k : Int) < ps.length := by omega
      have hf := flat_at ps k hd
      have hle := flat_le ps (k + 1)
      have hl := congrArg List.length hf
      rw [List.length_append] at hl
      have e1 : (((ps.take k).flatten.length : Int) + (ps.getD k []).length) = ((ps.take (k + 1)).flatten.length : Nat) := by omega
      simp (maxSteps := 10000000) (disch := omega) only [go_sem, σoj1, hd', reduceIte, seval, -BitVec.isValue, -BitVec.reduceOfNat, -List.reduceReplicate]
      refine ⟨k + 1, by omega, Wk_d [] (by simp) ?_, by omega⟩
      simp only [go_sem, e1, reduceIte, seval, -BitVec.isValue, -BitVec.reduceOfNat, -List.reduceReplicate]
      try simp
    · have hge : k = ps.length := by omega
      subst hge
      have hd' : ¬ ((ps.length : Int) < ps.length) := by omega
      simp (maxSteps := 10000000) (disch := omega) only [go_sem, σoj1, hd', List.take_length, reduceIte, seval, -BitVec.isValue, -BitVec.reduceOfNat, -List.reduceReplicate]
      refine AW_loop (σoj2 ps) (fun k => k ≤ ps.length) (fun k => ps.length - k) 0 (Nat.zero_le _) (Wk_d [] (by simp) ?_) fun k hk => ?_
      · simp only [go_sem, σoj2, reduceIte, seval, -BitVec.isValue, -BitVec.reduceOfNat, -List.reduceReplicate]
        try simp
      · refine AW_run CtOK_nil 1000 ?_
        by_cases hd : k < ps.length
        · have hd' : (k : Int) < ps.length := by omega
          have hf := flat_at ps k hd
          have hle := flat_le ps (k + 1)
          have hl := congrArg List.length hf
          rw [List.length_append] at hl
          simp (maxSteps := 10000000) (disch := omega) only [go_sem, σoj2, hd', reduceIte, seval, -BitVec.isValue, -BitVec.reduceOfNat, -List.reduceReplicate]
          refine ⟨k + 1, by omega, Wk_d [(0, 1)] (by simp) ?_, by omega⟩
          simp only [go_sem, reduceIte, seval, -BitVec.isValue, -BitVec.reduceOfNat, -List.reduceReplicate]
          simp [hf]
        · have hge : k = ps.length := by omega
          subst hge
          have hd' : ¬ ((ps.length : Int) < ps.length) := by omega
          simp (maxSteps := 10000000) (disch := omega) only [go_sem, σoj2, hd', List.take_length, reduceIte, seval, -BitVec.isValue, -BitVec.reduceOfNat, -List.reduceReplicate]
          try simp
theorem OJoin_fun (ps : List (List (BitVec 8))) (h0 : ps.length ≤ 140737488351232) (h : ps.flatten.length ≤ 140737488351232) : Fun Tryd.prog Gs 108 [Enc.enc ps] (Enc.ret ps.flatten) :=
  Fun_of_FunG (OJoin_funG ps h0 h) (by simp only [go_sem, reduceIte, seval, -BitVec.isValue, -BitVec.reduceOfNat, -List.reduceReplicate])
def ctOJoin : Nat × (List AV → R) := (108, A1 fun ps : List (List (BitVec 8)) => (ps.length ≤ 140737488351232 ∧ ps.flatten.length ≤ 140737488351232, Enc.ret ps.flatten))
theorem ctOJoin_ok {Ct : List (Nat × (List AV → R))} (h : CtOK Tryd.prog Gs Ct) : CtOK Tryd.prog Gs (ctOJoin :: Ct) := CtOK_cons (Row1 fun ps h => OJoin_fun ps h.1 h.2) h

/-! ## A leaf -/
def hdS (id : List (BitVec 8)) (q : BitVec 32) : List (BitVec 8) := id ++ bigL (q.setWidth 64) 4
theorem at_fun (o : Ots) (id : List (BitVec 8)) (q : BitVec 32) (hid : id.length = 16) : Fun Tryd.prog Gs 109 [Enc.enc o, Enc.enc (⟨id⟩ : Ar (BitVec 8)), Enc.enc q] (Enc.ret (⟨o, hdS id q⟩ : Lf)) := by
  refine Fun_cc [] mo Tryd.func109 (by decide) cc109 rs109 Tryd.ntmps109 (by simp) ?_
  have hct := mark_ok 11 (ctU32_ok (ctOJoin_ok CtOK_nil))
  refine AW_run CtOK_nil 2 ?_
  simp (maxSteps := 10000000) (disch := omega) only [go_sem, c109, hid, reduceIte, seval, -BitVec.isValue, -BitVec.reduceOfNat, -List.reduceReplicate]
  refine AW_freeze 1 [4] (seg := ⟨id.map .u8, true⟩) (by simp only [go_sem, reduceIte, seval, -BitVec.isValue, -BitVec.reduceOfNat, -List.reduceReplicate]) rfl (AW_ct [mark 11, ctU32, ctOJoin] (AW_run hct 1000 ?_))
  have hf : [id, bigL (q.setWidth 64) 4].flatten = hdS id q := by simp [hdS]
  have hbl := bigL_len (q.setWidth 64) 4
  have hdl : (hdS id q).length = 20 := by simp [hdS, hid, hbl]
  have hit : id.take 16 = id := List.take_of_length_le (by omega)
  simp (maxSteps := 10000000) (disch := omega) only [go_sem, frzF, hid, mark, ctU32, ctOJoin, hf, hbl, hit, hdl, deL_cons, deL_nil, reduceIte, seval, -BitVec.isValue, -BitVec.reduceOfNat, -List.reduceReplicate]
  try simp
def ctAt : Nat × (List AV → R) := (109, A3 fun (o : Ots) (id : Ar (BitVec 8)) (q : BitVec 32) => (id.l.length = 16, Enc.ret (⟨o, hdS id.l q⟩ : Lf)))
theorem ctAt_ok {Ct : List (Nat × (List AV → R))} (h : CtOK Tryd.prog Gs Ct) : CtOK Tryd.prog Gs (ctAt :: Ct) := CtOK_cons (Row3 fun o id q h => at_fun o id.l q h) h

/-! ## Sums of a leaf -/
def leOK (l : Lf) : Prop := otsT l.o.code = some l.o ∧ l.hd.length ≤ 1000
theorem hR {o : Ots} (h : otsT o.code = some o) (t : List (BitVec 8)) : HashR o t = Enc.ret (hO o t) := by rw [HashR, if_pos h]
theorem bb4 (a b c d : List (BitVec 8)) (ha : a.length ≤ 140737488351232) (hb : b.length ≤ 140737488351232) (hc : c.length ≤ 140737488351232) (hd : d.length ≤ 140737488351232) : bbOK [a, b, c, d] := by
  refine ⟨by simp, fun x hx => ?_⟩
  simp only [List.mem_cons, List.not_mem_nil, or_false] at hx
  rcases hx with rfl | rfl | rfl | rfl <;> assumption
theorem bb3 (a b c : List (BitVec 8)) (ha : a.length ≤ 140737488351232) (hb : b.length ≤ 140737488351232) (hc : c.length ≤ 140737488351232) : bbOK [a, b, c] := by
  refine ⟨by simp, fun x hx => ?_⟩
  simp only [List.mem_cons, List.not_mem_nil, or_false] at hx
  rcases hx with rfl | rfl | rfl <;> assumption
theorem u16_of (i : Nat) (h : i < 65536) : (BitVec.ofInt 16 (i : Int)).setWidth 64 = BitVec.ofNat 64 i := by
  apply BitVec.eq_of_toNat_eq
  simp
  omega
theorem preS_len (hd : List (BitVec 8)) (i : Nat) : (preS hd i).length = hd.length + 2 := by simp [preS, bigL_len]
set_option maxHeartbeats 1000000 in
theorem sec_fun (l : Lf) (i : Nat) (seed : List (BitVec 8)) (hl : leOK l) (hi : i < 65536) (hs : seed.length ≤ 140737488351232) : Fun Tryd.prog Gs 115 [Enc.enc l, Enc.enc (i : Int), Enc.enc seed] (Enc.ret (secS (hO l.o) l.hd seed i)) := by
  refine Fun_cc [mark 14, mark 16, ctU16, ctHash] mo Tryd.func115 (by decide) cc115 rs115 Tryd.ntmps115 (by simp) ?_
  have hct := mark_ok 14 (mark_ok 16 (ctU16_ok (ctHash_ok CtOK_nil)))
  obtain ⟨o, hd⟩ := l
  obtain ⟨h1, h2⟩ := hl
  simp only at h1 h2
  have hu := u16_of i hi
  have hbl := bigL_len (BitVec.ofNat 64 i) 2
  have hbb := bb4 hd (bigL (BitVec.ofNat 64 i) 2) [255] seed (by omega) (by omega) (by simp) hs
  have hfl : [hd, bigL (BitVec.ofNat 64 i) 2, [255], seed].flatten = preS hd i ++ [255#8] ++ seed := by simp [preS]
  have hpl := preS_len hd i
  have hsec : secS (hO o) hd seed i = hO o (preS hd i ++ [255#8] ++ seed) := rfl
  refine AW_run hct 1000 ?_
  simp (maxSteps := 10000000) (disch := omega) only [go_sem, c115, mark, ctU16, ctHash, hu, hbl, hbb, hfl, hpl, hR h1, hsec, deL_cons, deL_nil, reduceIte, seval, -BitVec.isValue, -BitVec.reduceOfNat, -List.reduceReplicate]
def ctSec : Nat × (List AV → R) := (115, A3 fun (l : Lf) (i : Int) (seed : List (BitVec 8)) => (leOK l ∧ 0 ≤ i ∧ i < 65536 ∧ seed.length ≤ 140737488351232, Enc.ret (secS (hO l.o) l.hd seed i.toNat)))
theorem ctSec_ok {Ct : List (Nat × (List AV → R))} (h : CtOK Tryd.prog Gs Ct) : CtOK Tryd.prog Gs (ctSec :: Ct) := CtOK_cons (Row3 fun l i seed h => by
  obtain ⟨h1, h2, h3, h4⟩ := h
  obtain ⟨i, rfl⟩ := Int.eq_ofNat_of_zero_le h2
  exact sec_fun l i seed h1 (by omega) h4) h
set_option maxHeartbeats 1000000 in
theorem shut_fun (l : Lf) (e : List (BitVec 8)) (hl : leOK l) (hs : e.length ≤ 140737488351232) : Fun Tryd.prog Gs 116 [Enc.enc l, Enc.enc e] (Enc.ret (shutS (hO l.o) l.hd e)) := by
  refine Fun_cc [mark 11, ctU16, ctHash] mo Tryd.func116 (by decide) cc116 rs116 Tryd.ntmps116 (by simp) ?_
  have hct := mark_ok 11 (ctU16_ok (ctHash_ok CtOK_nil))
  obtain ⟨o, hd⟩ := l
  obtain ⟨h1, h2⟩ := hl
  simp only at h1 h2
  have hbl := bigL_len (0x8080#64) 2
  have hbb := bb3 hd (bigL 0x8080#64 2) e (by omega) (by omega) hs
  have hfl : [hd, bigL 0x8080#64 2, e].flatten = hd ++ bigL 0x8080#64 2 ++ e := by simp
  have hsh : shutS (hO o) hd e = hO o (hd ++ bigL 0x8080#64 2 ++ e) := rfl
  refine AW_run hct 1000 ?_
  simp (maxSteps := 10000000) (disch := omega) only [go_sem, c116, mark, ctU16, ctHash, hbl, hbb, hfl, hR h1, hsh, deL_cons, deL_nil, reduceIte, seval, -BitVec.isValue, -BitVec.reduceOfNat, -List.reduceReplicate]
def ctShut : Nat × (List AV → R) := (116, A2 fun (l : Lf) (e : List (BitVec 8)) => (leOK l ∧ e.length ≤ 140737488351232, Enc.ret (shutS (hO l.o) l.hd e)))
theorem ctShut_ok {Ct : List (Nat × (List AV → R))} (h : CtOK Tryd.prog Gs Ct) : CtOK Tryd.prog Gs (ctShut :: Ct) := CtOK_cons (Row2 fun l e h => shut_fun l e h.1 h.2) h
def msgS (H : By → By) (hd c msg : By) : By := H (hd ++ bigL 0x8181#64 2 ++ c ++ msg)
set_option maxHeartbeats 1000000 in
theorem said_fun (l : Lf) (c msg : List (BitVec 8)) (hl : leOK l) (hc : c.length ≤ 140737488351232) (hm : msg.length ≤ 140737488351232) : Fun Tryd.prog Gs 119 [Enc.enc l, Enc.enc c, Enc.enc msg] (Enc.ret (digS l.o (msgS (hO l.o) l.hd c msg))) := by
  refine Fun_cc [mark 16, ctU16, ctHash, ctDigits] mo Tryd.func119 (by decide) cc119 rs119 Tryd.ntmps119 (by simp) ?_
  have hct := mark_ok 16 (ctU16_ok (ctHash_ok (ctDigits_ok CtOK_nil)))
  obtain ⟨o, hd⟩ := l
  obtain ⟨h1, h2⟩ := hl
  simp only at h1 h2
  have ho := otsT_ok h1
  have hn := ho.n
  have hln := hO_len ho (hd ++ bigL 0x8181#64 2 ++ c ++ msg)
  have hbl := bigL_len (0x8181#64) 2
  have hbb := bb4 hd (bigL 0x8181#64 2) c msg (by omega) (by omega) hc hm
  have hfl : [hd, bigL 0x8181#64 2, c, msg].flatten = hd ++ bigL 0x8181#64 2 ++ c ++ msg := by simp
  have hsh : msgS (hO o) hd c msg = hO o (hd ++ bigL 0x8181#64 2 ++ c ++ msg) := rfl
  refine AW_run hct 1000 ?_
  simp (maxSteps := 10000000) (disch := omega) only [go_sem, c119, mark, ctU16, ctHash, ctDigits, ho, hbl, hbb, hfl, hR h1, hsh, deL_cons, deL_nil, reduceIte, seval, -BitVec.isValue, -BitVec.reduceOfNat, -List.reduceReplicate]
def ctSaid : Nat × (List AV → R) := (119, A3 fun (l : Lf) (c msg : List (BitVec 8)) => (leOK l ∧ c.length ≤ 140737488351232 ∧ msg.length ≤ 140737488351232, Enc.ret (digS l.o (msgS (hO l.o) l.hd c msg))))
theorem ctSaid_ok {Ct : List (Nat × (List AV → R))} (h : CtOK Tryd.prog Gs Ct) : CtOK Tryd.prog Gs (ctSaid :: Ct) := CtOK_cons (Row3 fun l c m h => said_fun l c m h.1 h.2.1 h.2.2) h
/-! ## Steps of a chain -/
def roB (b : Bool) (x : By) : AV := .ros b x.length (x.map .u8)
@[go_sem] theorem roB_eq (b : Bool) (x : By) : roB b x = .ros b x.length (x.map .u8) := rfl
def σgo (l : Lf) (i f t : Nat) (x : By) (j : Nat) : St := ⟨[(1, .i i), (3, .i t), (4, roB (j != 0) (chn (hO l.o) (preS l.hd i) f j x)), (5, .ptr 0 0), (11, .i ((f + j : Nat) : Int))], [(0, ⟨[.u32 l.o.code, .b l.o.shake, .i l.o.n, .i l.o.w, .i l.o.p, .i l.o.ls, Enc.enc l.hd], true⟩)], 1⟩
set_option maxHeartbeats 2000000 in
theorem goes_fun (l : Lf) (i f k : Nat) (x : List (BitVec 8)) (hl : leOK l) (hi : i < 65536) (hx : x.length ≤ 1000000) (hf : f + k ≤ 255) : Fun Tryd.prog Gs 110 [Enc.enc l, Enc.enc (i : Int), Enc.enc (f : Int), Enc.enc ((f + k : Nat) : Int), Enc.enc x] (roB (k != 0) (chn (hO l.o) (preS l.hd i) f k x)) := by
  refine Fun_cc [mark 27, mark 29, ctU16, ctHash] mo Tryd.func110 (by decide) cc110 rs110 Tryd.ntmps110 (by simp) ?_
  have hct := mark_ok 27 (mark_ok 29 (ctU16_ok (ctHash_ok CtOK_nil)))
  obtain ⟨o, hd⟩ := l
  obtain ⟨h1, h2⟩ := hl
  simp only at h1 h2
  have hu := u16_of i hi
  have hpl := preS_len hd i
  have hbl := bigL_len (BitVec.ofNat 64 i) 2
  have hn := (otsT_ok h1).n
  refine AW_run hct 1000 ?_
  simp (maxSteps := 10000000) (disch := omega) only [go_sem, c110, mark, ctU16, ctHash, reduceIte, seval, -BitVec.isValue, -BitVec.reduceOfNat, -List.reduceReplicate]
  refine AW_loop (σgo ⟨o, hd⟩ i f (f + k) x) (fun j => j ≤ k) (fun j => k - j) 0 (Nat.zero_le _) (Wk_p [] ?_) fun j hj => ?_
  · simp only [go_sem, σgo, chn, bne_self_eq_false, reduceIte, seval, -BitVec.isValue, -BitVec.reduceOfNat, -List.reduceReplicate]
    try simp
  · refine AW_ct [mark 27, mark 29, ctU16, ctHash] (AW_run hct 1000 ?_)
    have hcl : (chn (hO o) (preS hd i) f j x).length ≤ 1000000 := by
      cases j with
      | zero => exact hx
      | succ j => rw [chn_succ]; have := hO_len (otsT_ok h1) (preS hd i ++ [BitVec.ofNat 8 (f + j)] ++ chn (hO o) (preS hd i) f j x); omega
    have hcs := chn_succ (hO o) (preS hd i) f j x
    obtain ⟨y, hy⟩ : ∃ y, y = chn (hO o) (preS hd i) f j x := ⟨_, rfl⟩
    rw [← hy] at hcl hcs
    by_cases hd' : j < k
    · have hlt : ((f + j : Nat) : Int) < ((f + k : Nat) : Int) := by omega
      have h8 : BitVec.ofInt 8 ((f + j : Nat) : Int) = BitVec.ofNat 8 (f + j) := BitVec.ofInt_natCast 8 (f + j)
      have hbb := bb4 hd (bigL (BitVec.ofNat 64 i) 2) [BitVec.ofNat 8 (f + j)] y (by omega) (by omega) (by simp) (by omega)
      have hfl : [hd, bigL (BitVec.ofNat 64 i) 2, [BitVec.ofNat 8 (f + j)], y].flatten = preS hd i ++ [BitVec.ofNat 8 (f + j)] ++ y := by simp [preS]
      simp (maxSteps := 10000000) (disch := omega) only [go_sem, σgo, ← hy, hlt, h8, hu, hbl, hbb, hfl, hpl, hR h1, ← hcs, mark, ctU16, ctHash, deL_cons, deL_nil, reduceIte, seval, -BitVec.isValue, -BitVec.reduceOfNat, -List.reduceReplicate]
      refine ⟨j + 1, by omega, Wk_p [] ?_, by omega⟩
      have e1 : ((f + j : Nat) : Int) + 1 = ((f + (j + 1) : Nat) : Int) := by omega
      have e2 : (j + 1 != 0) = true := by simp
      simp only [go_sem, σgo, e1, e2, reduceIte, seval, -BitVec.isValue, -BitVec.reduceOfNat, -List.reduceReplicate]
      try simp
    · have hge : j = k := by omega
      subst hge
      have hlt : ¬ ((f + j : Nat) : Int) < ((f + j : Nat) : Int) := by omega
      simp (maxSteps := 10000000) (disch := omega) only [go_sem, σgo, ← hy, hlt, mark, ctU16, ctHash, reduceIte, seval, -BitVec.isValue, -BitVec.reduceOfNat, -List.reduceReplicate]
      try simp
def ctGoes : Nat × (List AV → R) := (110, A5 fun (l : Lf) (i f t : Int) (x : List (BitVec 8)) => (leOK l ∧ 0 ≤ i ∧ i < 65536 ∧ x.length ≤ 1000000 ∧ 0 ≤ f ∧ f ≤ t ∧ t ≤ 255, roB ((t - f).toNat != 0) (chn (hO l.o) (preS l.hd i.toNat) f.toNat (t - f).toNat x)))
theorem ctGoes_ok {Ct : List (Nat × (List AV → R))} (h : CtOK Tryd.prog Gs Ct) : CtOK Tryd.prog Gs (ctGoes :: Ct) := CtOK_cons (Row5 fun l i f t x h => by
  obtain ⟨h1, h2, h3, h4, h5, h6, h7⟩ := h
  obtain ⟨i, rfl⟩ := Int.eq_ofNat_of_zero_le h2
  obtain ⟨f, rfl⟩ := Int.eq_ofNat_of_zero_le h5
  obtain ⟨k, hk⟩ := Int.eq_ofNat_of_zero_le (show 0 ≤ t - f by omega)
  have ht : t = ((f + k : Nat) : Int) := by omega
  have := goes_fun l i f k x h1 (by omega) h4 (by omega)
  rw [ht, show (((f + k : Nat) : Int) - (f : Int)).toNat = k by omega]
  exact this) h
end Go.Lv

namespace Go.Lv
open Go Go.Proofs
set_option linter.unusedSimpArgs false
set_option maxRecDepth 100000

theorem seeded_fun (o : Ots) (b : List (BitVec 8)) : Fun Tryd.prog Gs 114 [Enc.enc o, Enc.enc b] (.i (rMay o b)) := by
  refine Fun_cc [ctMay] mo Tryd.func114 (by decide) cc114 rs114 Tryd.ntmps114 (by simp) ?_
  have hct := ctMay_ok CtOK_nil
  by_cases h : otsT o.code = some o
  · by_cases h2 : (b.length : Int) = o.n
    · refine AW_run hct 1000 ?_
      simp (maxSteps := 10000000) (disch := omega) only [go_sem, c114, ctMay, otsMay, h, h2, reduceIte, seval, -BitVec.isValue, -BitVec.reduceOfNat, -List.reduceReplicate]
      simp [rMay, h, h2]
    · refine AW_run hct 1000 ?_
      simp (maxSteps := 10000000) (disch := omega) only [go_sem, c114, ctMay, otsMay, h, h2, reduceIte, seval, -BitVec.isValue, -BitVec.reduceOfNat, -List.reduceReplicate]
      simp [rMay, h, h2]
  · refine AW_run hct 1000 ?_
    simp (maxSteps := 10000000) (disch := omega) only [go_sem, c114, ctMay, otsMay, h, reduceIte, seval, -BitVec.isValue, -BitVec.reduceOfNat, -List.reduceReplicate]
    simp [rMay, h]
def ctSeeded : Nat × (List AV → R) := (114, A2 fun (o : Ots) (b : List (BitVec 8)) => (True, .i (rMay o b)))
theorem ctSeeded_ok {Ct : List (Nat × (List AV → R))} (h : CtOK Tryd.prog Gs Ct) : CtOK Tryd.prog Gs (ctSeeded :: Ct) := CtOK_cons (Row2 fun o b _ => seeded_fun o b) h
theorem top_le {o : Ots} (ho : OtsOK o) : 0 ≤ (2 : Int) ^ o.w.toNat - 1 ∧ (2 : Int) ^ o.w.toNat - 1 ≤ 255 := w_pow ho.w
def topN (o : Ots) : Nat := 2 ^ o.w.toNat - 1
theorem topN_eq {o : Ots} (ho : OtsOK o) : ((topN o : Nat) : Int) = 2 ^ o.w.toNat - 1 := by
  have h2 := Nat.pow_pos (n := o.w.toNat) (show 0 < 2 by omega)
  have h3 : (2 : Int) ^ o.w.toNat = ((2 ^ o.w.toNat : Nat) : Int) := by simp
  rw [topN, h3]; omega
theorem topN_le {o : Ots} (ho : OtsOK o) : topN o ≤ 255 := by have := topN_eq ho; have := top_le ho; omega
theorem leOK_of {o : Ots} (h : otsT o.code = some o) {id : List (BitVec 8)} (hid : id.length = 16) (q : BitVec 32) : leOK ⟨o, hdS id q⟩ := ⟨h, by simp [hdS, hid, bigL_len]⟩
def nilE (e : Int) : AV := .tup [.ros true 0 [], .i e]
def chE (o : Ots) (i f t : Int) (x : By) : Int := if otsT o.code = some o then if (x.length : Int) = o.n ∧ 0 ≤ i ∧ i < o.p ∧ 0 ≤ f ∧ t ≤ topN o ∧ f ≤ t then 0 else 1 else 60
def ChainR (o : Ots) (id : By) (q : BitVec 32) (i f t : Int) (x : By) : AV :=
  if chE o i f t x = 0 then .tup [Enc.ret (chn (hO o) (preS (hdS id q) i.toNat) f.toNat (t - f).toNat x), .i 0] else nilE (chE o i f t x)
set_option maxHeartbeats 4000000 in
theorem Chain_fun (o : Ots) (id : By) (q : BitVec 32) (i f t : Int) (x : By) (hid : id.length = 16) : Fun Tryd.prog Gs 33 [Enc.enc o, Enc.enc (⟨id⟩ : Ar (BitVec 8)), Enc.enc q, Enc.enc i, Enc.enc f, Enc.enc t, Enc.enc x] (ChainR o id q i f t x) := by
  refine Fun_cc [mark 61, ctMay, ctTop, ctAt, ctGoes, ctOJoin] mo Tryd.func33 (by decide) cc33 rs33 Tryd.ntmps33 (by simp) ?_
  have hct := mark_ok 61 (ctMay_ok (ctTop_ok (ctAt_ok (ctGoes_ok (ctOJoin_ok CtOK_nil)))))
  by_cases h : otsT o.code = some o
  · have ho := otsT_ok h
    have hw := ho.w
    have hw1 : 0 ≤ o.w ∧ o.w ≤ 61 := by rcases hw with h | h | h | h <;> omega
    have ht := topN_eq ho
    have htl := topN_le ho
    by_cases c1 : i < 0
    · have hE : chE o i f t x = 1 := by rw [chE, if_pos h, if_neg (by omega)]
      rw [ChainR, hE, if_neg (by decide)]
      refine AW_run hct 1000 ?_
      simp (maxSteps := 10000000) (disch := omega) only [go_sem, c33, mark, ctMay, ctTop, ctAt, ctGoes, ctOJoin, otsMay, h, c1, nilE, reduceIte, seval, -BitVec.isValue, -BitVec.reduceOfNat, -List.reduceReplicate]
    by_cases c2 : o.p ≤ i
    · have hE : chE o i f t x = 1 := by rw [chE, if_pos h, if_neg (by omega)]
      rw [ChainR, hE, if_neg (by decide)]
      refine AW_run hct 1000 ?_
      simp (maxSteps := 10000000) (disch := omega) only [go_sem, c33, mark, ctMay, ctTop, ctAt, ctGoes, ctOJoin, otsMay, h, c1, c2, nilE, reduceIte, seval, -BitVec.isValue, -BitVec.reduceOfNat, -List.reduceReplicate]
    by_cases c3 : f < 0
    · have hE : chE o i f t x = 1 := by rw [chE, if_pos h, if_neg (by omega)]
      rw [ChainR, hE, if_neg (by decide)]
      refine AW_run hct 1000 ?_
      simp (maxSteps := 10000000) (disch := omega) only [go_sem, c33, mark, ctMay, ctTop, ctAt, ctGoes, ctOJoin, otsMay, h, c1, c2, c3, nilE, reduceIte, seval, -BitVec.isValue, -BitVec.reduceOfNat, -List.reduceReplicate]
    by_cases c4 : (topN o : Int) < t
    · have hE : chE o i f t x = 1 := by rw [chE, if_pos h, if_neg (by omega)]
      rw [ChainR, hE, if_neg (by decide)]
      refine AW_run hct 1000 ?_
      simp (maxSteps := 10000000) (disch := omega) only [go_sem, c33, mark, ctMay, ctTop, ctAt, ctGoes, ctOJoin, otsMay, h, c1, c2, c3, hw1, ← ht, c4, nilE, reduceIte, seval, -BitVec.isValue, -BitVec.reduceOfNat, -List.reduceReplicate]
    by_cases c5 : t < f
    · have hE : chE o i f t x = 1 := by rw [chE, if_pos h, if_neg (by omega)]
      rw [ChainR, hE, if_neg (by decide)]
      refine AW_run hct 1000 ?_
      simp (maxSteps := 10000000) (disch := omega) only [go_sem, c33, mark, ctMay, ctTop, ctAt, ctGoes, ctOJoin, otsMay, h, c1, c2, c3, hw1, ← ht, c4, c5, nilE, reduceIte, seval, -BitVec.isValue, -BitVec.reduceOfNat, -List.reduceReplicate]
    by_cases c6 : (x.length : Int) = o.n
    · have hE : chE o i f t x = 0 := by rw [chE, if_pos h, if_pos (by omega)]
      rw [ChainR, if_pos hE]
      have hle := leOK_of h hid q
      have hit : id.take 16 = id := List.take_of_length_le (by omega)
      have hp := ho.p
      have hn := ho.n
      have hcl : (chn (hO o) (preS (hdS id q) i.toNat) f.toNat (t - f).toNat x).length ≤ 1000000 := by
        have := chn_len (n := x.length) (hO o) (fun t => by have := hO_len ho t; omega) (preS (hdS id q) i.toNat) f.toNat (t - f).toNat x rfl
        omega
      have hfl : [chn (hO o) (preS (hdS id q) i.toNat) f.toNat (t - f).toNat x].flatten = chn (hO o) (preS (hdS id q) i.toNat) f.toNat (t - f).toNat x := by simp
      refine AW_run hct 1000 ?_
      simp (maxSteps := 10000000) (disch := omega) only [go_sem, c33, mark, ctMay, ctTop, ctAt, ctGoes, ctOJoin, otsMay, h, c1, c2, c3, hw1, ← ht, c4, c5, c6, hid, hit, hle, hfl, deL_cons, deL_nil, reduceIte, seval, -BitVec.isValue, -BitVec.reduceOfNat, -List.reduceReplicate]
      try simp
    · have hE : chE o i f t x = 1 := by rw [chE, if_pos h, if_neg (by omega)]
      rw [ChainR, hE, if_neg (by decide)]
      refine AW_run hct 1000 ?_
      simp (maxSteps := 10000000) (disch := omega) only [go_sem, c33, mark, ctMay, ctTop, ctAt, ctGoes, ctOJoin, otsMay, h, c1, c2, c3, hw1, ← ht, c4, c5, c6, nilE, reduceIte, seval, -BitVec.isValue, -BitVec.reduceOfNat, -List.reduceReplicate]
  · have hE : chE o i f t x = 60 := by rw [chE, if_neg h]
    rw [ChainR, hE, if_neg (by decide)]
    refine AW_run hct 1000 ?_
    simp (maxSteps := 10000000) (disch := omega) only [go_sem, c33, mark, ctMay, ctTop, ctAt, ctGoes, ctOJoin, otsMay, h, nilE, reduceIte, seval, -BitVec.isValue, -BitVec.reduceOfNat, -List.reduceReplicate]
end Go.Lv

namespace Go.Lv
open Go Go.Proofs
set_option linter.unusedSimpArgs false
set_option maxRecDepth 100000

theorem rMay_0 {o : Ots} {b : By} (h : rMay o b = 0) : otsT o.code = some o ∧ (b.length : Int) = o.n := by
  unfold rMay at h
  split at h
  · rename_i h1
    split at h
    · rename_i h2; exact ⟨h1, h2⟩
    · omega
  · omega
theorem secS_len {o : Ots} (ho : OtsOK o) (hd seed : By) (i : Nat) : ((secS (hO o) hd seed i).length : Int) = o.n := hO_len ho _
def SecretR (o : Ots) (id : By) (q : BitVec 32) (seed : By) (i : Int) : AV :=
  if rMay o seed = 0 then if i < 0 ∨ o.p ≤ i then nilE 1 else .tup [Enc.ret (secS (hO o) (hdS id q) seed i.toNat), .i 0] else nilE (rMay o seed)
set_option maxHeartbeats 1000000 in
theorem Secret_fun (o : Ots) (id : By) (q : BitVec 32) (seed : By) (i : Int) (hid : id.length = 16) : Fun Tryd.prog Gs 36 [Enc.enc o, Enc.enc (⟨id⟩ : Ar (BitVec 8)), Enc.enc q, Enc.enc seed, Enc.enc i] (SecretR o id q seed i) := by
  refine Fun_cc [ctSeeded, ctAt, ctSec] mo Tryd.func36 (by decide) cc36 rs36 Tryd.ntmps36 (by simp) ?_
  have hct := ctSeeded_ok (ctAt_ok (ctSec_ok CtOK_nil))
  have hit : id.take 16 = id := List.take_of_length_le (by omega)
  by_cases h0 : rMay o seed = 0
  · obtain ⟨h, hs⟩ := rMay_0 h0
    have ho := otsT_ok h
    have hp := ho.p
    have hn := ho.n
    have hle := leOK_of h hid q
    rw [SecretR, if_pos h0]
    by_cases c1 : i < 0
    · rw [if_pos (.inl c1)]
      refine AW_run hct 1000 ?_
      simp (maxSteps := 10000000) (disch := omega) only [go_sem, c36, ctSeeded, ctAt, ctSec, h0, c1, nilE, reduceIte, seval, -BitVec.isValue, -BitVec.reduceOfNat, -List.reduceReplicate]
    by_cases c2 : o.p ≤ i
    · rw [if_pos (.inr c2)]
      refine AW_run hct 1000 ?_
      simp (maxSteps := 10000000) (disch := omega) only [go_sem, c36, ctSeeded, ctAt, ctSec, h0, c1, c2, nilE, reduceIte, seval, -BitVec.isValue, -BitVec.reduceOfNat, -List.reduceReplicate]
    · rw [if_neg (by omega)]
      refine AW_run hct 1000 ?_
      simp (maxSteps := 10000000) (disch := omega) only [go_sem, c36, ctSeeded, ctAt, ctSec, h0, c1, c2, hid, hit, hle, reduceIte, seval, -BitVec.isValue, -BitVec.reduceOfNat, -List.reduceReplicate]
      try simp
  · rw [SecretR, if_neg h0]
    refine AW_run hct 1000 ?_
    simp (maxSteps := 10000000) (disch := omega) only [go_sem, c36, ctSeeded, ctAt, ctSec, h0, nilE, reduceIte, seval, -BitVec.isValue, -BitVec.reduceOfNat, -List.reduceReplicate]
def RandomR (o : Ots) (id : By) (q : BitVec 32) (seed : By) : AV :=
  if rMay o seed = 0 then .tup [Enc.ret (secS (hO o) (hdS id q) seed 65533), .i 0] else nilE (rMay o seed)
set_option maxHeartbeats 1000000 in
theorem Random_fun (o : Ots) (id : By) (q : BitVec 32) (seed : By) (hid : id.length = 16) : Fun Tryd.prog Gs 37 [Enc.enc o, Enc.enc (⟨id⟩ : Ar (BitVec 8)), Enc.enc q, Enc.enc seed] (RandomR o id q seed) := by
  refine Fun_cc [ctSeeded, ctAt, ctSec] mo Tryd.func37 (by decide) cc37 rs37 Tryd.ntmps37 (by simp) ?_
  have hct := ctSeeded_ok (ctAt_ok (ctSec_ok CtOK_nil))
  have hit : id.take 16 = id := List.take_of_length_le (by omega)
  by_cases h0 : rMay o seed = 0
  · obtain ⟨h, hs⟩ := rMay_0 h0
    have hn := (otsT_ok h).n
    have hle := leOK_of h hid q
    rw [RandomR, if_pos h0]
    refine AW_run hct 1000 ?_
    simp (maxSteps := 10000000) (disch := omega) only [go_sem, c37, ctSeeded, ctAt, ctSec, h0, hid, hit, hle, reduceIte, seval, -BitVec.isValue, -BitVec.reduceOfNat, -List.reduceReplicate]
    try simp
  · rw [RandomR, if_neg h0]
    refine AW_run hct 1000 ?_
    simp (maxSteps := 10000000) (disch := omega) only [go_sem, c37, ctSeeded, ctAt, ctSec, h0, nilE, reduceIte, seval, -BitVec.isValue, -BitVec.reduceOfNat, -List.reduceReplicate]

def pubF (o : Ots) (hd seed : By) (i : Nat) : By := chn (hO o) (preS hd i) 0 (topN o) (secS (hO o) hd seed i)
theorem pubF_len {o : Ots} (ho : OtsOK o) (hd seed : By) (i : Nat) : (pubF o hd seed i).length = o.n.toNat := by
  have hn := ho.n
  exact chn_len (hO o) (fun t => by have := hO_len ho t; omega) _ _ _ _ (by have := secS_len ho hd seed i; omega)
def lpubO (o : Ots) (id : By) (q : BitVec 32) (seed : By) : By := lpubS (hO o) (hdS id q) (topN o) o.p.toNat seed
theorem lpubO_len {o : Ots} (ho : OtsOK o) (id : By) (q : BitVec 32) (seed : By) : ((lpubO o id q seed).length : Int) = o.n := hO_len ho _
def PubR (o : Ots) (id : By) (q : BitVec 32) (seed : By) : AV :=
  if rMay o seed = 0 then .tup [Enc.ret (lpubO o id q seed), .i 0] else nilE (rMay o seed)
def otsC (o : Ots) : List AV := [.u32 o.code, .b o.shake, .i o.n, .i o.w, .i o.p, .i o.ls]
def lfC (o : Ots) (hd : By) : List AV := [.u32 o.code, .b o.shake, .i o.n, .i o.w, .i o.p, .i o.ls, Enc.ret hd]
def σpu (o : Ots) (hd seed : By) (j : Nat) : St :=
  ⟨[(3, Enc.enc seed), (4, .ptr 0 0), (11, .ptr 2 0), (12, .sl 3 0 (ends j (pubF o hd seed)).length 1), (25, .i o.p), (26, .i j)],
   [(0, ⟨otsC o, true⟩), (2, ⟨lfC o hd, true⟩), (3, ⟨(ends j (pubF o hd seed)).map .u8, true⟩)], 4⟩
set_option maxHeartbeats 4000000 in
theorem Public_fun (o : Ots) (id : By) (q : BitVec 32) (seed : By) (hid : id.length = 16) : Fun Tryd.prog Gs 41 [Enc.enc o, Enc.enc (⟨id⟩ : Ar (BitVec 8)), Enc.enc q, Enc.enc seed] (PubR o id q seed) := by
  refine Fun_cc [ctSeeded, ctAt, ctSec, ctTop, ctGoes, ctShut] mo Tryd.func41 (by decide) cc41 rs41 Tryd.ntmps41 (by simp) ?_
  have hct := ctSeeded_ok (ctAt_ok (ctSec_ok (ctTop_ok (ctGoes_ok (ctShut_ok CtOK_nil)))))
  have hit : id.take 16 = id := List.take_of_length_le (by omega)
  by_cases h0 : rMay o seed = 0
  · obtain ⟨h, hs⟩ := rMay_0 h0
    have ho := otsT_ok h
    have hp := ho.p
    have hn := ho.n
    have hw := ho.w
    have hw1 : 0 ≤ o.w ∧ o.w ≤ 61 := by rcases hw with h | h | h | h <;> omega
    have htn := topN_eq ho
    have htl := topN_le ho
    have hle := leOK_of h hid q
    have hdl : (hdS id q).length = 20 := by simp [hdS, hid, bigL_len]
    obtain ⟨hd, hhd⟩ : ∃ hd, hd = hdS id q := ⟨_, rfl⟩
    rw [← hhd] at hle hdl
    have hll : ∀ j, (ends j (pubF o hd seed)).length = j * o.n.toNat := ends_len _ (pubF_len ho hd seed)
    have hR : PubR o id q seed = .tup [Enc.ret (shutS (hO o) hd (ends o.p.toNat (pubF o hd seed))), .i 0] := by rw [PubR, if_pos h0, lpubO, ← hhd]; rfl
    rw [hR]
    refine AW_run hct 1000 ?_
    simp (maxSteps := 10000000) (disch := omega) only [go_sem, c41, ctSeeded, ctAt, ctSec, ctTop, ctGoes, ctShut, h0, hid, hit, ← hhd, hdl, reduceIte, seval, -BitVec.isValue, -BitVec.reduceOfNat, -List.reduceReplicate]
    refine AW_null 12 1 (by simp only [go_sem, reduceIte, seval, -BitVec.isValue, -BitVec.reduceOfNat, -List.reduceReplicate]) ?_
    refine AW_loop (σpu o hd seed) (fun j => (j : Int) ≤ o.p) (fun j => o.p.toNat - j) 0 (by simp; omega) (Wk_p [] ?_) fun j hj => ?_
    · simp only [go_sem, σpu, ends_zero, otsC, lfC, reduceIte, seval, -BitVec.isValue, -BitVec.reduceOfNat, -List.reduceReplicate]
      try simp [hdl]
    · refine AW_ct [ctSeeded, ctAt, ctSec, ctTop, ctGoes, ctShut] (AW_run hct 1000 ?_)
      have hjl := hll j
      by_cases hc : (j : Int) < o.p
      · have hsl := secS_len ho hd seed j
        have hmul : j * o.n.toNat ≤ 265 * 32 := Nat.mul_le_mul (by omega) (by omega)
        have htt : ((2 : Int) ^ o.w.toNat - 1) = ((topN o : Nat) : Int) := htn.symm
        have hpf : chn (hO o) (preS hd j) 0 (topN o) (secS (hO o) hd seed j) = pubF o hd seed j := rfl
        have hpl := pubF_len ho hd seed j
        have hsn : (secS (hO o) hd seed j).length ≤ 1000000 := by omega
        simp (maxSteps := 10000000) (disch := omega) only [go_sem, σpu, otsC, lfC, hc, hjl, hw1, htt, hle, hsn, Int.sub_zero, hpf, hpl, ctSeeded, ctAt, ctSec, ctTop, ctGoes, ctShut, reduceIte, seval, -BitVec.isValue, -BitVec.reduceOfNat, -List.reduceReplicate]
        refine ⟨j + 1, by omega, Wk_p [(3, 4)] ?_, by omega⟩
        simp only [go_sem, σpu, otsC, lfC, reduceIte, seval, -BitVec.isValue, -BitVec.reduceOfNat, -List.reduceReplicate]
        simp [ends_succ, hjl, hpl, hdl]
      · have hge : j = o.p.toNat := by omega
        have hmul : j * o.n.toNat ≤ 265 * 32 := Nat.mul_le_mul (by omega) (by omega)
        have hej : (ends j (pubF o hd seed)).take (j * o.n.toNat) = ends j (pubF o hd seed) := List.take_of_length_le (by omega)
        have hjb : (ends j (pubF o hd seed)).length ≤ 140737488351232 := by omega
        rw [← hge]
        simp (maxSteps := 10000000) (disch := omega) only [go_sem, σpu, otsC, lfC, hc, hjl, hej, hle, hjb, ctSeeded, ctAt, ctSec, ctTop, ctGoes, ctShut, reduceIte, seval, -BitVec.isValue, -BitVec.reduceOfNat, -List.reduceReplicate]
        try simp [hdl]
  · rw [PubR, if_neg h0]
    refine AW_run hct 1000 ?_
    simp (maxSteps := 10000000) (disch := omega) only [go_sem, c41, ctSeeded, ctAt, ctSec, ctTop, ctGoes, ctShut, h0, nilE, reduceIte, seval, -BitVec.isValue, -BitVec.reduceOfNat, -List.reduceReplicate]
def ctLSecret : Nat × (List AV → R) := (36, A5 fun (o : Ots) (id : Ar (BitVec 8)) (q : BitVec 32) (seed : By) (i : Int) => (id.l.length = 16, SecretR o id.l q seed i))
theorem ctLSecret_ok {Ct : List (Nat × (List AV → R))} (h : CtOK Tryd.prog Gs Ct) : CtOK Tryd.prog Gs (ctLSecret :: Ct) := CtOK_cons (Row5 fun o id q seed i h => Secret_fun o id.l q seed i h) h
def ctLRandom : Nat × (List AV → R) := (37, A4 fun (o : Ots) (id : Ar (BitVec 8)) (q : BitVec 32) (seed : By) => (id.l.length = 16, RandomR o id.l q seed))
theorem ctLRandom_ok {Ct : List (Nat × (List AV → R))} (h : CtOK Tryd.prog Gs Ct) : CtOK Tryd.prog Gs (ctLRandom :: Ct) := CtOK_cons (Row4 fun o id q seed h => Random_fun o id.l q seed h) h
def ctLPublic : Nat × (List AV → R) := (41, A4 fun (o : Ots) (id : Ar (BitVec 8)) (q : BitVec 32) (seed : By) => (id.l.length = 16, PubR o id.l q seed))
theorem ctLPublic_ok {Ct : List (Nat × (List AV → R))} (h : CtOK Tryd.prog Gs Ct) : CtOK Tryd.prog Gs (ctLPublic :: Ct) := CtOK_cons (Row4 fun o id q seed h => Public_fun o id.l q seed h) h
def ctLChain : Nat × (List AV → R) := (33, A7 fun (o : Ots) (id : Ar (BitVec 8)) (q : BitVec 32) (i f t : Int) (x : By) => (id.l.length = 16, ChainR o id.l q i f t x))
theorem ctLChain_ok {Ct : List (Nat × (List AV → R))} (h : CtOK Tryd.prog Gs Ct) : CtOK Tryd.prog Gs (ctLChain :: Ct) := CtOK_cons (Row7 fun o id q i f t x h => Chain_fun o id.l q i f t x h) h
end Go.Lv

namespace Go.Lv
open Go Go.Proofs
set_option linter.unusedSimpArgs false
set_option maxRecDepth 100000

theorem head_fun (id : By) (q : BitVec 32) (hid : id.length = 16) : Fun Tryd.prog Gs 112 [Enc.enc (⟨id⟩ : Ar (BitVec 8)), Enc.enc q] (Enc.ret (hdS id q)) := by
  refine Fun_cc [] mo Tryd.func112 (by decide) cc112 rs112 Tryd.ntmps112 (by simp) ?_
  have hct := mark_ok 9 (ctRBig_ok (ctJoin_ok CtOK_nil))
  refine AW_run CtOK_nil 1 ?_
  simp (maxSteps := 10000000) (disch := omega) only [go_sem, c112, hid, reduceIte, seval, -BitVec.isValue, -BitVec.reduceOfNat, -List.reduceReplicate]
  refine AW_freeze 0 [2] (seg := ⟨id.map .u8, true⟩) (by simp only [go_sem, reduceIte, seval, -BitVec.isValue, -BitVec.reduceOfNat, -List.reduceReplicate]) rfl (AW_ct [mark 9, ctRBig, ctJoin] (AW_run hct 1000 ?_))
  have hf : [id, bigL (q.setWidth 64) 4].flatten = hdS id q := by simp [hdS]
  have hbl := bigL_len (q.setWidth 64) 4
  have hdl : (hdS id q).length = 20 := by simp [hdS, hid, hbl]
  have hit : id.take 16 = id := List.take_of_length_le (by omega)
  simp (maxSteps := 10000000) (disch := omega) only [go_sem, frzF, hid, mark, ctRBig, ctJoin, hf, hbl, hit, hdl, deL_cons, deL_nil, reduceIte, seval, -BitVec.isValue, -BitVec.reduceOfNat, -List.reduceReplicate]
  try simp
def ctHead : Nat × (List AV → R) := (112, A2 fun (id : Ar (BitVec 8)) (q : BitVec 32) => (id.l.length = 16, Enc.ret (hdS id.l q)))
theorem ctHead_ok {Ct : List (Nat × (List AV → R))} (h : CtOK Tryd.prog Gs Ct) : CtOK Tryd.prog Gs (ctHead :: Ct) := CtOK_cons (Row2 fun id q h => head_fun id.l q h) h
theorem hd_len {id : By} {q : BitVec 32} (hid : id.length = 16) : (hdS id q).length = 20 := by simp [hdS, hid, bigL_len]
theorem oi64 (i : Nat) : BitVec.ofInt 64 (i : Int) = BitVec.ofNat 64 i := BitVec.ofInt_natCast 64 i
set_option maxHeartbeats 1000000 in
theorem rSecret_fun (o : Ots) (id : By) (q : BitVec 32) (seed : By) (i : Nat) (ho : OtsOK o) (hid : id.length = 16) (hs : seed.length ≤ 100000000) :
    Fun Tryd.prog Gs 40 [Enc.enc o, Enc.enc (⟨id⟩ : Ar (BitVec 8)), Enc.enc q, Enc.enc seed, Enc.enc (i : Int)] (Enc.ret (secS (hO o) (hdS id q) seed i)) := by
  refine Fun_cc [mark 21, mark 23, ctHead, ctRBig, ctJoin, ctRSum] mo Tryd.func40 (by decide) cc40 rs40 Tryd.ntmps40 (by simp) ?_
  have hct := mark_ok 21 (mark_ok 23 (ctHead_ok (ctRBig_ok (ctJoin_ok (ctRSum_ok CtOK_nil)))))
  have hit : id.take 16 = id := List.take_of_length_le (by omega)
  have hn := ho.n
  have hdl := hd_len (q := q) hid
  have hbl := bigL_len (BitVec.ofNat 64 i) 2
  have hoi := oi64 i
  have hfl : [hdS id q, bigL (BitVec.ofNat 64 i) 2, [255], seed].flatten = preS (hdS id q) i ++ [255#8] ++ seed := by simp [preS]
  have hpl := preS_len (hdS id q) i
  have hsec : secS (hO o) (hdS id q) seed i = hsumS o.shake o.n.toNat (preS (hdS id q) i ++ [255#8] ++ seed) := rfl
  refine AW_run hct 1000 ?_
  simp (maxSteps := 10000000) (disch := omega) only [go_sem, c40, mark, ctHead, ctRBig, ctJoin, ctRSum, hid, hit, hdl, hbl, hoi, hfl, hpl, hsec, deL_cons, deL_nil, reduceIte, seval, -BitVec.isValue, -BitVec.reduceOfNat, -List.reduceReplicate]
def ctRSecret : Nat × (List AV → R) := (40, A5 fun (o : Ots) (id : Ar (BitVec 8)) (q : BitVec 32) (seed : By) (i : Int) => (OtsOK o ∧ id.l.length = 16 ∧ seed.length ≤ 100000000 ∧ 0 ≤ i, Enc.ret (secS (hO o) (hdS id.l q) seed i.toNat)))
theorem ctRSecret_ok {Ct : List (Nat × (List AV → R))} (h : CtOK Tryd.prog Gs Ct) : CtOK Tryd.prog Gs (ctRSecret :: Ct) := CtOK_cons (Row5 fun o id q seed i h => by
  obtain ⟨h1, h2, h3, h4⟩ := h
  obtain ⟨i, rfl⟩ := Int.eq_ofNat_of_zero_le h4
  exact rSecret_fun o id.l q seed i h1 h2 h3) h
theorem rRandom_fun (o : Ots) (id : By) (q : BitVec 32) (seed : By) (ho : OtsOK o) (hid : id.length = 16) (hs : seed.length ≤ 100000000) :
    Fun Tryd.prog Gs 39 [Enc.enc o, Enc.enc (⟨id⟩ : Ar (BitVec 8)), Enc.enc q, Enc.enc seed] (Enc.ret (secS (hO o) (hdS id q) seed 65533)) := by
  refine Fun_cc [ctRSecret] mo Tryd.func39 (by decide) cc39 rs39 Tryd.ntmps39 (by simp) ?_
  have hct := ctRSecret_ok CtOK_nil
  have hit : id.take 16 = id := List.take_of_length_le (by omega)
  refine AW_run hct 1000 ?_
  simp (maxSteps := 10000000) (disch := omega) only [go_sem, c39, ctRSecret, hid, hit, ho, reduceIte, seval, -BitVec.isValue, -BitVec.reduceOfNat, -List.reduceReplicate]
  try simp
def ctRRandom : Nat × (List AV → R) := (39, A4 fun (o : Ots) (id : Ar (BitVec 8)) (q : BitVec 32) (seed : By) => (OtsOK o ∧ id.l.length = 16 ∧ seed.length ≤ 100000000, Enc.ret (secS (hO o) (hdS id.l q) seed 65533)))
theorem ctRRandom_ok {Ct : List (Nat × (List AV → R))} (h : CtOK Tryd.prog Gs Ct) : CtOK Tryd.prog Gs (ctRRandom :: Ct) := CtOK_cons (Row4 fun o id q seed h => rRandom_fun o id.l q seed h.1 h.2.1 h.2.2) h
set_option maxHeartbeats 1000000 in
theorem rshut_fun (o : Ots) (id : By) (q : BitVec 32) (e : By) (ho : OtsOK o) (hid : id.length = 16) (hs : e.length ≤ 100000000) :
    Fun Tryd.prog Gs 117 [Enc.enc o, Enc.enc (⟨id⟩ : Ar (BitVec 8)), Enc.enc q, Enc.enc e] (Enc.ret (shutS (hO o) (hdS id q) e)) := by
  refine Fun_cc [mark 18, ctHead, ctRBig, ctJoin, ctRSum] mo Tryd.func117 (by decide) cc117 rs117 Tryd.ntmps117 (by simp) ?_
  have hct := mark_ok 18 (ctHead_ok (ctRBig_ok (ctJoin_ok (ctRSum_ok CtOK_nil))))
  have hit : id.take 16 = id := List.take_of_length_le (by omega)
  have hn := ho.n
  have hdl := hd_len (q := q) hid
  have hbl := bigL_len (32896 : BitVec 64) 2
  have hbl2 := bigL_len (0x8080#64) 2
  have hfl : [hdS id q, bigL (32896 : BitVec 64) 2, e].flatten = hdS id q ++ bigL 0x8080#64 2 ++ e := by simp
  have hsh : shutS (hO o) (hdS id q) e = hsumS o.shake o.n.toNat (hdS id q ++ bigL 0x8080#64 2 ++ e) := rfl
  refine AW_run hct 1000 ?_
  simp (maxSteps := 10000000) (disch := omega) only [go_sem, c117, mark, ctHead, ctRBig, ctJoin, ctRSum, hid, hit, hdl, hbl, hbl2, hfl, hsh, deL_cons, deL_nil, reduceIte, seval, -BitVec.isValue, -BitVec.reduceOfNat, -List.reduceReplicate]
def ctRShut : Nat × (List AV → R) := (117, A4 fun (o : Ots) (id : Ar (BitVec 8)) (q : BitVec 32) (e : By) => (OtsOK o ∧ id.l.length = 16 ∧ e.length ≤ 100000000, Enc.ret (shutS (hO o) (hdS id.l q) e)))
theorem ctRShut_ok {Ct : List (Nat × (List AV → R))} (h : CtOK Tryd.prog Gs Ct) : CtOK Tryd.prog Gs (ctRShut :: Ct) := CtOK_cons (Row4 fun o id q e h => rshut_fun o id.l q e h.1 h.2.1 h.2.2) h
def σrch (o : Ots) (id : By) (q : BitVec 32) (i f t : Nat) (x : By) (j : Nat) : St :=
  ⟨[(2, .u32 q), (3, .i i), (5, .i t), (6, roB (j != 0) (chn (hO o) (preS (hdS id q) i) f j x)), (7, .ptr 0 0), (8, .ptr 1 0), (15, .i ((f + j : Nat) : Int))], [(0, ⟨otsC o, true⟩), (1, ⟨id.map .u8, true⟩)], 2⟩
set_option maxHeartbeats 2000000 in
theorem rChain_fun (o : Ots) (id : By) (q : BitVec 32) (i f k : Nat) (x : By) (ho : OtsOK o) (hid : id.length = 16) (hx : x.length ≤ 1000000) (hf : f + k ≤ 255) :
    Fun Tryd.prog Gs 35 [Enc.enc o, Enc.enc (⟨id⟩ : Ar (BitVec 8)), Enc.enc q, Enc.enc (i : Int), Enc.enc (f : Int), Enc.enc ((f + k : Nat) : Int), Enc.enc x] (roB (k != 0) (chn (hO o) (preS (hdS id q) i) f k x)) := by
  refine Fun_cc [mark 34, mark 36, ctHead, ctRBig, ctJoin, ctRSum] mo Tryd.func35 (by decide) cc35 rs35 Tryd.ntmps35 (by simp) ?_
  have hct := mark_ok 34 (mark_ok 36 (ctHead_ok (ctRBig_ok (ctJoin_ok (ctRSum_ok CtOK_nil)))))
  have hit : id.take 16 = id := List.take_of_length_le (by omega)
  have hn := ho.n
  have hdl := hd_len (q := q) hid
  have hpl := preS_len (hdS id q) i
  have hbl := bigL_len (BitVec.ofNat 64 i) 2
  have hoi := oi64 i
  refine AW_run hct 1000 ?_
  simp (maxSteps := 10000000) (disch := omega) only [go_sem, c35, mark, ctHead, ctRBig, ctJoin, ctRSum, reduceIte, seval, -BitVec.isValue, -BitVec.reduceOfNat, -List.reduceReplicate]
  refine AW_loop (σrch o id q i f (f + k) x) (fun j => j ≤ k) (fun j => k - j) 0 (Nat.zero_le _) (Wk_p [] ?_) fun j hj => ?_
  · simp only [go_sem, σrch, chn, bne_self_eq_false, otsC, reduceIte, seval, -BitVec.isValue, -BitVec.reduceOfNat, -List.reduceReplicate]
    try simp
  · refine AW_ct [mark 34, mark 36, ctHead, ctRBig, ctJoin, ctRSum] (AW_run hct 1000 ?_)
    have hcl : (chn (hO o) (preS (hdS id q) i) f j x).length ≤ 1000000 := by
      cases j with
      | zero => exact hx
      | succ j => rw [chn_succ]; have := hO_len ho (preS (hdS id q) i ++ [BitVec.ofNat 8 (f + j)] ++ chn (hO o) (preS (hdS id q) i) f j x); omega
    have hcs := chn_succ (hO o) (preS (hdS id q) i) f j x
    obtain ⟨y, hy⟩ : ∃ y, y = chn (hO o) (preS (hdS id q) i) f j x := ⟨_, rfl⟩
    rw [← hy] at hcl hcs
    have hcs' : hsumS o.shake o.n.toNat (preS (hdS id q) i ++ [BitVec.ofNat 8 (f + j)] ++ y) = chn (hO o) (preS (hdS id q) i) f (j + 1) x := hcs.symm
    by_cases hd' : j < k
    · have hlt : ((f + j : Nat) : Int) < ((f + k : Nat) : Int) := by omega
      have h8 : BitVec.ofInt 8 ((f + j : Nat) : Int) = BitVec.ofNat 8 (f + j) := BitVec.ofInt_natCast 8 (f + j)
      have hfl : [hdS id q, bigL (BitVec.ofNat 64 i) 2, [BitVec.ofNat 8 (f + j)], y].flatten = preS (hdS id q) i ++ [BitVec.ofNat 8 (f + j)] ++ y := by simp [preS]
      simp (maxSteps := 10000000) (disch := omega) only [go_sem, σrch, ← hy, otsC, hlt, h8, hid, hit, hdl, hbl, hoi, hfl, hpl, hcs', mark, ctHead, ctRBig, ctJoin, ctRSum, deL_cons, deL_nil, reduceIte, seval, -BitVec.isValue, -BitVec.reduceOfNat, -List.reduceReplicate]
      refine ⟨j + 1, by omega, Wk_p [] ?_, by omega⟩
      have e1 : ((f + j : Nat) : Int) + 1 = ((f + (j + 1) : Nat) : Int) := by omega
      have e2 : (j + 1 != 0) = true := by simp
      simp only [go_sem, σrch, otsC, e1, e2, reduceIte, seval, -BitVec.isValue, -BitVec.reduceOfNat, -List.reduceReplicate]
      try simp
    · have hge : j = k := by omega
      subst hge
      have hlt : ¬ ((f + j : Nat) : Int) < ((f + j : Nat) : Int) := by omega
      simp (maxSteps := 10000000) (disch := omega) only [go_sem, σrch, ← hy, otsC, hlt, mark, ctHead, ctRBig, ctJoin, ctRSum, reduceIte, seval, -BitVec.isValue, -BitVec.reduceOfNat, -List.reduceReplicate]
      try simp
def ctRChain : Nat × (List AV → R) := (35, A7 fun (o : Ots) (id : Ar (BitVec 8)) (q : BitVec 32) (i f t : Int) (x : By) => (OtsOK o ∧ id.l.length = 16 ∧ 0 ≤ i ∧ x.length ≤ 1000000 ∧ 0 ≤ f ∧ f ≤ t ∧ t ≤ 255, roB ((t - f).toNat != 0) (chn (hO o) (preS (hdS id.l q) i.toNat) f.toNat (t - f).toNat x)))
theorem ctRChain_ok {Ct : List (Nat × (List AV → R))} (h : CtOK Tryd.prog Gs Ct) : CtOK Tryd.prog Gs (ctRChain :: Ct) := CtOK_cons (Row7 fun o id q i f t x h => by
  obtain ⟨h1, h0, h2, h4, h5, h6, h7⟩ := h
  obtain ⟨i, rfl⟩ := Int.eq_ofNat_of_zero_le h2
  obtain ⟨f, rfl⟩ := Int.eq_ofNat_of_zero_le h5
  obtain ⟨k, hk⟩ := Int.eq_ofNat_of_zero_le (show 0 ≤ t - f by omega)
  have ht : t = ((f + k : Nat) : Int) := by omega
  have := rChain_fun o id.l q i f k x h1 h0 h4 (by omega)
  rw [ht, show (((f + k : Nat) : Int) - (f : Int)).toNat = k by omega]
  exact this) h
def σrpu (o : Ots) (id : By) (q : BitVec 32) (seed : By) (j : Nat) : St :=
  ⟨[(2, .u32 q), (3, Enc.enc seed), (4, .ptr 0 0), (5, .ptr 1 0), (9, .sl 2 0 (ends j (pubF o (hdS id q) seed)).length 1), (13, .i o.p), (14, .i j)],
   [(0, ⟨otsC o, true⟩), (1, ⟨id.map .u8, true⟩), (2, ⟨(ends j (pubF o (hdS id q) seed)).map .u8, true⟩)], 3⟩
set_option maxHeartbeats 4000000 in
theorem rPublic_fun (o : Ots) (id : By) (q : BitVec 32) (seed : By) (ho : OtsOK o) (hid : id.length = 16) (hs : (seed.length : Int) = o.n) :
    Fun Tryd.prog Gs 42 [Enc.enc o, Enc.enc (⟨id⟩ : Ar (BitVec 8)), Enc.enc q, Enc.enc seed] (Enc.ret (lpubO o id q seed)) := by
  refine Fun_cc [ctMost, ctRSecret, ctRChain, ctRShut] mo Tryd.func42 (by decide) cc42 rs42 Tryd.ntmps42 (by simp) ?_
  have hct := ctMost_ok (ctRSecret_ok (ctRChain_ok (ctRShut_ok CtOK_nil)))
  have hit : id.take 16 = id := List.take_of_length_le (by omega)
  have hp := ho.p
  have hn := ho.n
  have hw := ho.w
  have hw1 : 0 ≤ o.w ∧ o.w ≤ 61 := by rcases hw with h | h | h | h <;> omega
  have htn := topN_eq ho
  have htl := topN_le ho
  have hll : ∀ j, (ends j (pubF o (hdS id q) seed)).length = j * o.n.toNat := ends_len _ (pubF_len ho (hdS id q) seed)
  have hR : lpubO o id q seed = shutS (hO o) (hdS id q) (ends o.p.toNat (pubF o (hdS id q) seed)) := rfl
  rw [hR]
  refine AW_run hct 1000 ?_
  simp (maxSteps := 10000000) (disch := omega) only [go_sem, c42, ctMost, ctRSecret, ctRChain, ctRShut, reduceIte, seval, -BitVec.isValue, -BitVec.reduceOfNat, -List.reduceReplicate]
  refine AW_loop (σrpu o id q seed) (fun j => (j : Int) ≤ o.p) (fun j => o.p.toNat - j) 0 (by simp; omega) (Wk_p [] ?_) fun j hj => ?_
  · simp only [go_sem, σrpu, ends_zero, otsC, reduceIte, seval, -BitVec.isValue, -BitVec.reduceOfNat, -List.reduceReplicate]
    try simp
  · refine AW_ct [ctMost, ctRSecret, ctRChain, ctRShut] (AW_run hct 1000 ?_)
    have hjl := hll j
    by_cases hc : (j : Int) < o.p
    · have hsl := secS_len ho (hdS id q) seed j
      have hmul : j * o.n.toNat ≤ 265 * 32 := Nat.mul_le_mul (by omega) (by omega)
      have htt : ((2 : Int) ^ o.w.toNat - 1) = ((topN o : Nat) : Int) := htn.symm
      have hpf : chn (hO o) (preS (hdS id q) j) 0 (topN o) (secS (hO o) (hdS id q) seed j) = pubF o (hdS id q) seed j := rfl
      have hpl := pubF_len ho (hdS id q) seed j
      have hsn : (secS (hO o) (hdS id q) seed j).length ≤ 1000000 := by omega
      simp (maxSteps := 10000000) (disch := omega) only [go_sem, σrpu, otsC, hc, hjl, hw1, htt, ho, hid, hit, hsn, Int.sub_zero, hpf, hpl, ctMost, ctRSecret, ctRChain, ctRShut, reduceIte, seval, -BitVec.isValue, -BitVec.reduceOfNat, -List.reduceReplicate]
      refine ⟨j + 1, by omega, Wk_p [(2, 3)] ?_, by omega⟩
      simp only [go_sem, σrpu, otsC, reduceIte, seval, -BitVec.isValue, -BitVec.reduceOfNat, -List.reduceReplicate]
      simp [ends_succ, hjl, hpl]
    · have hge : j = o.p.toNat := by omega
      have hmul : j * o.n.toNat ≤ 265 * 32 := Nat.mul_le_mul (by omega) (by omega)
      have hej : (ends j (pubF o (hdS id q) seed)).take (j * o.n.toNat) = ends j (pubF o (hdS id q) seed) := List.take_of_length_le (by omega)
      have hjb : (ends j (pubF o (hdS id q) seed)).length ≤ 100000000 := by omega
      rw [← hge]
      simp (maxSteps := 10000000) (disch := omega) only [go_sem, σrpu, otsC, hc, hjl, hej, ho, hid, hit, hjb, ctMost, ctRSecret, ctRChain, ctRShut, reduceIte, seval, -BitVec.isValue, -BitVec.reduceOfNat, -List.reduceReplicate]
      try simp
def ctRPublic : Nat × (List AV → R) := (42, A4 fun (o : Ots) (id : Ar (BitVec 8)) (q : BitVec 32) (seed : By) => (OtsOK o ∧ id.l.length = 16 ∧ (seed.length : Int) = o.n, Enc.ret (lpubO o id.l q seed)))
theorem ctRPublic_ok {Ct : List (Nat × (List AV → R))} (h : CtOK Tryd.prog Gs Ct) : CtOK Tryd.prog Gs (ctRPublic :: Ct) := CtOK_cons (Row4 fun o id q seed h => rPublic_fun o id.l q seed h.1 h.2.1 h.2.2) h
set_option maxHeartbeats 2000000 in
theorem MayChain_fun (o : Ots) (i f t : Int) (x : By) : Fun Tryd.prog Gs 34 [Enc.enc o, Enc.enc i, Enc.enc f, Enc.enc t, Enc.enc x] (.i (chE o i f t x)) := by
  refine Fun_cc [ctRMay, ctMost] mo Tryd.func34 (by decide) cc34 rs34 Tryd.ntmps34 (by simp) ?_
  have hct := ctRMay_ok (ctMost_ok CtOK_nil)
  by_cases h0 : rMay o x = 0
  · obtain ⟨h, hs⟩ := rMay_0 h0
    have ho := otsT_ok h
    have hw := ho.w
    have hw1 : 0 ≤ o.w ∧ o.w ≤ 61 := by rcases hw with h | h | h | h <;> omega
    have ht := topN_eq ho
    by_cases c1 : i < 0
    · rw [chE, if_pos h, if_neg (by omega)]
      refine AW_run hct 1000 ?_
      simp (maxSteps := 10000000) (disch := omega) only [go_sem, c34, ctRMay, ctMost, h0, c1, reduceIte, seval, -BitVec.isValue, -BitVec.reduceOfNat, -List.reduceReplicate]
    by_cases c2 : o.p ≤ i
    · rw [chE, if_pos h, if_neg (by omega)]
      refine AW_run hct 1000 ?_
      simp (maxSteps := 10000000) (disch := omega) only [go_sem, c34, ctRMay, ctMost, h0, c1, c2, reduceIte, seval, -BitVec.isValue, -BitVec.reduceOfNat, -List.reduceReplicate]
    by_cases c3 : f < 0
    · rw [chE, if_pos h, if_neg (by omega)]
      refine AW_run hct 1000 ?_
      simp (maxSteps := 10000000) (disch := omega) only [go_sem, c34, ctRMay, ctMost, h0, c1, c2, c3, reduceIte, seval, -BitVec.isValue, -BitVec.reduceOfNat, -List.reduceReplicate]
    by_cases c4 : (topN o : Int) < t
    · rw [chE, if_pos h, if_neg (by omega)]
      refine AW_run hct 1000 ?_
      simp (maxSteps := 10000000) (disch := omega) only [go_sem, c34, ctRMay, ctMost, h0, c1, c2, c3, hw1, ← ht, c4, reduceIte, seval, -BitVec.isValue, -BitVec.reduceOfNat, -List.reduceReplicate]
    by_cases c5 : t < f
    · rw [chE, if_pos h, if_neg (by omega)]
      refine AW_run hct 1000 ?_
      simp (maxSteps := 10000000) (disch := omega) only [go_sem, c34, ctRMay, ctMost, h0, c1, c2, c3, hw1, ← ht, c4, c5, reduceIte, seval, -BitVec.isValue, -BitVec.reduceOfNat, -List.reduceReplicate]
    · rw [chE, if_pos h, if_pos (by omega)]
      refine AW_run hct 1000 ?_
      simp (maxSteps := 10000000) (disch := omega) only [go_sem, c34, ctRMay, ctMost, h0, c1, c2, c3, hw1, ← ht, c4, c5, reduceIte, seval, -BitVec.isValue, -BitVec.reduceOfNat, -List.reduceReplicate]
  · have hE : chE o i f t x = rMay o x := by
      unfold rMay chE at *
      split
      · rename_i h1
        rw [if_pos h1] at h0
        split at h0
        · exact absurd rfl h0
        · rename_i h2; rw [if_neg h2, if_neg (fun h => h2 h.1)]
      · rfl
    rw [hE]
    refine AW_run hct 1000 ?_
    simp (maxSteps := 10000000) (disch := omega) only [go_sem, c34, ctRMay, ctMost, h0, reduceIte, seval, -BitVec.isValue, -BitVec.reduceOfNat, -List.reduceReplicate]
def ctMayChain : Nat × (List AV → R) := (34, A5 fun (o : Ots) (i f t : Int) (x : By) => (True, .i (chE o i f t x)))
theorem ctMayChain_ok {Ct : List (Nat × (List AV → R))} (h : CtOK Tryd.prog Gs Ct) : CtOK Tryd.prog Gs (ctMayChain :: Ct) := CtOK_cons (Row5 fun o i f t x _ => MayChain_fun o i f t x) h
end Go.Lv

