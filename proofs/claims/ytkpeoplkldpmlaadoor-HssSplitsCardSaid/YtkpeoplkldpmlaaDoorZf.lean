/- A part of the proof. -/
import Derived.Test.YtkpeoplkldpmlaaDoorGZ
import Derived.Test.YtkpeoplkldpmlaaDoorFE
import Derived.Test.YtkpeoplkldpmlaaDoorKpliverylaw07
set_option linter.all false
namespace Go.Lv
open Go Go.Proofs
set_option linter.unusedSimpArgs false
set_option maxRecDepth 100000

section
variable {k : Leaf}
theorem Lc_len (h : k.id.length = 16) : k.c.length = 19 := by simp [Leaf.c, h]
theorem Lc_0 : k.c.getD 0 .junk = .u32 k.code := rfl
theorem Lc_1 (h : k.id.length = 16) : (k.c.drop 1).take 16 = k.id.map .u8 := by
  show (k.id.map AV.u8 ++ [AV.u32 k.q, Enc.enc k.seed]).take 16 = _
  rw [List.take_left' (by simpa using h)]
theorem Lc_d (h : k.id.length = 16) : k.c.drop 17 = [.u32 k.q, Enc.enc k.seed] := by
  show (k.id.map AV.u8 ++ [AV.u32 k.q, Enc.enc k.seed]).drop 16 = _
  rw [List.drop_left' (by simpa using h)]
theorem Lc_17 (h : k.id.length = 16) : k.c.getD 17 .junk = .u32 k.q := by
  have := congrArg (fun l => l.getD 0 AV.junk) (Lc_d h)
  simpa [List.getD_eq_getElem?_getD] using this
theorem Lc_18 (h : k.id.length = 16) : k.c.getD 18 .junk = Enc.enc k.seed := by
  have := congrArg (fun l => l.getD 1 AV.junk) (Lc_d h)
  simpa [List.getD_eq_getElem?_getD] using this
end
theorem roB_own (b : Bool) (x : By) : own (roB b x) = false := by simp [roB, own, o_8]
set_option maxHeartbeats 4000000 in
theorem LChains_fun (k : Leaf) (w : Lway) (x : By) (hk : k.ok) (hw : w.ok) (hx : x.length ≤ 140737488351232) : Fun Tryd.prog Gs 4 [.agg k.c, .agg w.c, Enc.enc x] (.b true) := by
  refine Fun_cc [ctLive, ctSet, ctLChain, ctMayChain, ctRChain, ctEqual] mo Tryd.func4 (by decide) cc4 rs4 Tryd.ntmps4 (by simp) ?_
  have hct := ctLive_ok (ctSet_ok (ctLChain_ok (ctMayChain_ok (ctRChain_ok (ctEqual_ok CtOK_nil)))))
  have hid := hk.id
  have hit : k.id.take 16 = k.id := List.take_of_length_le (by omega)
  have ho := setS_ok k.code
  obtain ⟨o, hoo⟩ : ∃ o, o = setS k.code := ⟨_, rfl⟩
  rw [← hoo] at ho
  by_cases hE : chE o w.i w.f w.t x = 0
  · have hcd : (x.length : Int) = o.n ∧ 0 ≤ w.i ∧ w.i < o.p ∧ 0 ≤ w.f ∧ w.t ≤ topN o ∧ w.f ≤ w.t := by
      unfold chE at hE
      split at hE
      · split at hE
        · assumption
        · omega
      · omega
    have htl := topN_le ho
    have hn := ho.n
    have hR : ChainR o k.id k.q w.i w.f w.t x = .tup [Enc.ret (chn (hO o) (preS (hdS k.id k.q) w.i.toNat) w.f.toNat (w.t - w.f).toNat x), .i 0] := by rw [ChainR, if_pos hE]
    obtain ⟨c, hc⟩ : ∃ c, c = chn (hO o) (preS (hdS k.id k.q) w.i.toNat) w.f.toNat (w.t - w.f).toNat x := ⟨_, rfl⟩
    rw [← hc] at hR
    refine AW_run hct 1000 ?_
    simp (maxSteps := 10000000) (disch := omega) only [go_sem, c4, ctLive, ctSet, ctLChain, ctMayChain, ctRChain, ctEqual, Lc_len hid, Lc_0, Lc_1 hid, Lc_17 hid, Lc_18 hid, Lway.c, ← hoo, hid, hit, hE, hR, ho, ← hc, reduceIte, seval, -BitVec.isValue, -BitVec.reduceOfNat, -List.reduceReplicate]
  · have hR : ChainR o k.id k.q w.i w.f w.t x = nilE (chE o w.i w.f w.t x) := by rw [ChainR, if_neg hE]
    obtain ⟨e, he⟩ : ∃ e, e = chE o w.i w.f w.t x := ⟨_, rfl⟩
    rw [← he] at hE hR
    refine AW_run hct 1000 ?_
    simp (maxSteps := 10000000) (disch := omega) only [go_sem, c4, ctLive, ctSet, ctLChain, ctMayChain, ctRChain, ctEqual, Lc_len hid, Lc_0, Lc_1 hid, Lc_17 hid, Lc_18 hid, Lway.c, ← hoo, hid, hit, hE, hR, nilE, ← he, reduceIte, seval, -BitVec.isValue, -BitVec.reduceOfNat, -List.reduceReplicate]

set_option maxHeartbeats 4000000 in
theorem LSecrets_fun (k : Leaf) (i : Int) (hk : k.ok) (_ : -9223372036854775808 ≤ i ∧ i ≤ 9223372036854775807) : Fun Tryd.prog Gs 6 [.agg k.c, Enc.enc i] (.b true) := by
  refine Fun_cc [ctLive, ctSet, ctLSecret, ctLRandom, ctRMay, ctRSecret, ctRRandom, ctEqual] mo Tryd.func6 (by decide) cc6 rs6 Tryd.ntmps6 (by simp) ?_
  have hct := ctLive_ok (ctSet_ok (ctLSecret_ok (ctLRandom_ok (ctRMay_ok (ctRSecret_ok (ctRRandom_ok (ctEqual_ok CtOK_nil)))))))
  have hid := hk.id
  have hit : k.id.take 16 = k.id := List.take_of_length_le (by omega)
  have ho := setS_ok k.code
  obtain ⟨o, hoo⟩ : ∃ o, o = setS k.code := ⟨_, rfl⟩
  rw [← hoo] at ho
  by_cases h0 : rMay o k.seed = 0
  · obtain ⟨h, hs⟩ := rMay_0 h0
    have hn := ho.n
    have hsl : k.seed.length ≤ 100000000 := by omega
    have hRa : RandomR o k.id k.q k.seed = .tup [Enc.ret (secS (hO o) (hdS k.id k.q) k.seed 65533), .i 0] := by rw [RandomR, if_pos h0]
    by_cases c1 : i < 0
    · have hRs : SecretR o k.id k.q k.seed i = nilE 1 := by rw [SecretR, if_pos h0, if_pos (.inl c1)]
      refine AW_run hct 1000 ?_
      simp (maxSteps := 10000000) (disch := omega) only [go_sem, c6, ctLive, ctSet, ctLSecret, ctLRandom, ctRMay, ctRSecret, ctRRandom, ctEqual, Lc_len hid, Lc_0, Lc_1 hid, Lc_17 hid, Lc_18 hid, ← hoo, hid, hit, h0, hRa, hRs, ho, hsl, c1, nilE, reduceIte, seval, -BitVec.isValue, -BitVec.reduceOfNat, -List.reduceReplicate]
    by_cases c2 : o.p ≤ i
    · have hRs : SecretR o k.id k.q k.seed i = nilE 1 := by rw [SecretR, if_pos h0, if_pos (.inr c2)]
      refine AW_run hct 1000 ?_
      simp (maxSteps := 10000000) (disch := omega) only [go_sem, c6, ctLive, ctSet, ctLSecret, ctLRandom, ctRMay, ctRSecret, ctRRandom, ctEqual, Lc_len hid, Lc_0, Lc_1 hid, Lc_17 hid, Lc_18 hid, ← hoo, hid, hit, h0, hRa, hRs, ho, hsl, c1, c2, nilE, reduceIte, seval, -BitVec.isValue, -BitVec.reduceOfNat, -List.reduceReplicate]
    · have hRs : SecretR o k.id k.q k.seed i = .tup [Enc.ret (secS (hO o) (hdS k.id k.q) k.seed i.toNat), .i 0] := by rw [SecretR, if_pos h0, if_neg (by omega)]
      refine AW_run hct 1000 ?_
      simp (maxSteps := 10000000) (disch := omega) only [go_sem, c6, ctLive, ctSet, ctLSecret, ctLRandom, ctRMay, ctRSecret, ctRRandom, ctEqual, Lc_len hid, Lc_0, Lc_1 hid, Lc_17 hid, Lc_18 hid, ← hoo, hid, hit, h0, hRa, hRs, ho, hsl, c1, c2, nilE, reduceIte, seval, -BitVec.isValue, -BitVec.reduceOfNat, -List.reduceReplicate]
  · have hRs : SecretR o k.id k.q k.seed i = nilE (rMay o k.seed) := by rw [SecretR, if_neg h0]
    have hRa : RandomR o k.id k.q k.seed = nilE (rMay o k.seed) := by rw [RandomR, if_neg h0]
    obtain ⟨e, he⟩ : ∃ e, e = rMay o k.seed := ⟨_, rfl⟩
    rw [← he] at h0 hRs hRa
    refine AW_run hct 1000 ?_
    simp (maxSteps := 10000000) (disch := omega) only [go_sem, c6, ctLive, ctSet, ctLSecret, ctLRandom, ctRMay, ctRSecret, ctRRandom, ctEqual, Lc_len hid, Lc_0, Lc_1 hid, Lc_17 hid, Lc_18 hid, ← hoo, hid, hit, h0, hRa, hRs, ← he, nilE, reduceIte, seval, -BitVec.isValue, -BitVec.reduceOfNat, -List.reduceReplicate]

set_option maxHeartbeats 4000000 in
theorem LPublics_fun (k : Leaf) (hk : k.ok) : Fun Tryd.prog Gs 7 [.agg k.c] (.b true) := by
  refine Fun_cc [ctLive, ctSet, ctLPublic, ctRMay, ctRPublic, ctEqual] mo Tryd.func7 (by decide) cc7 rs7 Tryd.ntmps7 (by simp) ?_
  have hct := ctLive_ok (ctSet_ok (ctLPublic_ok (ctRMay_ok (ctRPublic_ok (ctEqual_ok CtOK_nil)))))
  have hid := hk.id
  have hit : k.id.take 16 = k.id := List.take_of_length_le (by omega)
  have ho := setS_ok k.code
  obtain ⟨o, hoo⟩ : ∃ o, o = setS k.code := ⟨_, rfl⟩
  rw [← hoo] at ho
  by_cases h0 : rMay o k.seed = 0
  · obtain ⟨h, hs⟩ := rMay_0 h0
    have hR : PubR o k.id k.q k.seed = .tup [Enc.ret (lpubO o k.id k.q k.seed), .i 0] := by rw [PubR, if_pos h0]
    refine AW_run hct 1000 ?_
    simp (maxSteps := 10000000) (disch := omega) only [go_sem, c7, ctLive, ctSet, ctLPublic, ctRMay, ctRPublic, ctEqual, Lc_len hid, Lc_0, Lc_1 hid, Lc_17 hid, Lc_18 hid, ← hoo, hid, hit, h0, hR, ho, hs, reduceIte, seval, -BitVec.isValue, -BitVec.reduceOfNat, -List.reduceReplicate]
  · have hR : PubR o k.id k.q k.seed = nilE (rMay o k.seed) := by rw [PubR, if_neg h0]
    obtain ⟨e, he⟩ : ∃ e, e = rMay o k.seed := ⟨_, rfl⟩
    rw [← he] at h0 hR
    refine AW_run hct 1000 ?_
    simp (maxSteps := 10000000) (disch := omega) only [go_sem, c7, ctLive, ctSet, ctLPublic, ctRMay, ctRPublic, ctEqual, Lc_len hid, Lc_0, Lc_1 hid, Lc_17 hid, Lc_18 hid, ← hoo, hid, hit, h0, hR, ← he, nilE, reduceIte, seval, -BitVec.isValue, -BitVec.reduceOfNat, -List.reduceReplicate]

theorem chE_0 {o : Ots} {i f t : Int} {x : By} : chE o i f t x = 0 ↔ otsT o.code = some o ∧ (x.length : Int) = o.n ∧ 0 ≤ i ∧ i < o.p ∧ 0 ≤ f ∧ t ≤ topN o ∧ f ≤ t := by
  unfold chE
  constructor
  · intro h
    split at h
    · split at h
      · exact ⟨by assumption, by assumption⟩
      · omega
    · omega
  · rintro ⟨h1, h2⟩
    rw [if_pos h1, if_pos h2]
set_option maxHeartbeats 8000000 in
theorem LSteps_fun (k : Leaf) (w : Lway) (mid : Int) (x : By) (hk : k.ok) (hw : w.ok) (_ : -9223372036854775808 ≤ mid ∧ mid ≤ 9223372036854775807) (hx : x.length ≤ 140737488351232) : Fun Tryd.prog Gs 5 [.agg k.c, .agg w.c, Enc.enc mid, Enc.enc x] (.b true) := by
  refine Fun_cc [ctLive, ctSet, ctLChain, ctMayChain, ctEqual] mo Tryd.func5 (by decide) cc5 rs5 Tryd.ntmps5 (by simp) ?_
  have hct := ctLive_ok (ctSet_ok (ctLChain_ok (ctMayChain_ok (ctEqual_ok CtOK_nil))))
  have hid := hk.id
  have hit : k.id.take 16 = k.id := List.take_of_length_le (by omega)
  have ho := setS_ok k.code
  obtain ⟨o, hoo⟩ : ∃ o, o = setS k.code := ⟨_, rfl⟩
  rw [← hoo] at ho
  by_cases hE : chE o w.i w.f w.t x = 0
  · by_cases c1 : mid < w.f
    · refine AW_run hct 1000 ?_
      simp (maxSteps := 10000000) (disch := omega) only [go_sem, c5, ctLive, ctSet, ctLChain, ctMayChain, ctEqual, Lc_len hid, Lc_0, Lc_1 hid, Lc_17 hid, Lc_18 hid, Lway.c, ← hoo, hid, hit, hE, c1, reduceIte, seval, -BitVec.isValue, -BitVec.reduceOfNat, -List.reduceReplicate]
    by_cases c2 : w.t < mid
    · refine AW_run hct 1000 ?_
      simp (maxSteps := 10000000) (disch := omega) only [go_sem, c5, ctLive, ctSet, ctLChain, ctMayChain, ctEqual, Lc_len hid, Lc_0, Lc_1 hid, Lc_17 hid, Lc_18 hid, Lway.c, ← hoo, hid, hit, hE, c1, c2, reduceIte, seval, -BitVec.isValue, -BitVec.reduceOfNat, -List.reduceReplicate]
    obtain ⟨h, h1, h2, h3, h4, h5, h6⟩ := chE_0.1 hE
    have hn := ho.n
    obtain ⟨y, hy⟩ : ∃ y, y = chn (hO o) (preS (hdS k.id k.q) w.i.toNat) w.f.toNat (mid - w.f).toNat x := ⟨_, rfl⟩
    have hyl : (y.length : Int) = o.n := by
      have := chn_len (n := x.length) (hO o) (fun t => by have := hO_len ho t; omega) (preS (hdS k.id k.q) w.i.toNat) w.f.toNat (mid - w.f).toNat x rfl
      rw [hy]; omega
    have hR1 : ChainR o k.id k.q w.i w.f mid x = .tup [Enc.ret y, .i 0] := by rw [ChainR, if_pos (chE_0.2 ⟨h, h1, h2, h3, h4, by omega, by omega⟩), hy]
    have hadd := chn_add (hO o) (preS (hdS k.id k.q) w.i.toNat) (mid - w.f).toNat (w.t - mid).toNat w.f.toNat x
    rw [show (mid - w.f).toNat + (w.t - mid).toNat = (w.t - w.f).toNat by omega, show w.f.toNat + (mid - w.f).toNat = mid.toNat by omega, ← hy] at hadd
    obtain ⟨z, hz⟩ : ∃ z, z = chn (hO o) (preS (hdS k.id k.q) w.i.toNat) w.f.toNat (w.t - w.f).toNat x := ⟨_, rfl⟩
    have hR2 : ChainR o k.id k.q w.i mid w.t y = .tup [Enc.ret z, .i 0] := by rw [ChainR, if_pos (chE_0.2 ⟨h, hyl, h2, h3, by omega, by omega, by omega⟩), hz, hadd]
    have hR3 : ChainR o k.id k.q w.i w.f w.t x = .tup [Enc.ret z, .i 0] := by rw [ChainR, if_pos hE, hz]
    by_cases c3 : w.f = w.t
    · have hzx : z = x := by rw [hz, c3, Int.sub_self]; rfl
      rw [hzx] at hR2 hR3
      refine AW_run hct 1000 ?_
      simp (maxSteps := 10000000) (disch := omega) only [go_sem, c5, ctLive, ctSet, ctLChain, ctMayChain, ctEqual, Lc_len hid, Lc_0, Lc_1 hid, Lc_17 hid, Lc_18 hid, Lway.c, ← hoo, hid, hit, hE, c1, c2, hR1, hR2, hR3, decide_eq_true c3, reduceIte, seval, -BitVec.isValue, -BitVec.reduceOfNat, -List.reduceReplicate]
      try simp [c3]
    · refine AW_run hct 1000 ?_
      simp (maxSteps := 10000000) (disch := omega) only [go_sem, c5, ctLive, ctSet, ctLChain, ctMayChain, ctEqual, Lc_len hid, Lc_0, Lc_1 hid, Lc_17 hid, Lc_18 hid, Lway.c, ← hoo, hid, hit, hE, c1, c2, hR1, hR2, hR3, c3, reduceIte, seval, -BitVec.isValue, -BitVec.reduceOfNat, -List.reduceReplicate]
  · obtain ⟨e, he⟩ : ∃ e, e = chE o w.i w.f w.t x := ⟨_, rfl⟩
    rw [← he] at hE
    refine AW_run hct 1000 ?_
    simp (maxSteps := 10000000) (disch := omega) only [go_sem, c5, ctLive, ctSet, ctLChain, ctMayChain, ctEqual, Lc_len hid, Lc_0, Lc_1 hid, Lc_17 hid, Lc_18 hid, Lway.c, ← hoo, hid, hit, hE, ← he, reduceIte, seval, -BitVec.isValue, -BitVec.reduceOfNat, -List.reduceReplicate]
end Go.Lv
