/- A part of the proof. -/
import Derived.Test.YtkpeoplkldpmlaaDoorZi
import Derived.Test.YtkpeoplkldpmlaaDoorZf
import Derived.Test.YtkpeoplkldpmlaaDoorGK
import Derived.Test.YtkpeoplkldpmlaaDoorKpliverylaw07
set_option linter.all false
namespace Go.Lv
open Go Go.Proofs
set_option linter.unusedSimpArgs false
set_option maxRecDepth 100000

def σrcn (o : Ots) (id : By) (q : BitVec 32) (hd sig rest : By) (ds : List Int) (j : Nat) : St :=
  ⟨[(2, .u32 q), (4, Enc.enc sig), (5, .ptr 0 0), (6, .ptr 1 0), (13, .sl 2 0 (ends j (cnF o hd rest ds)).length 1), (43, Enc.ret ds), (44, .i ds.length), (45, .i j)],
   [(0, ⟨otsC o, true⟩), (1, ⟨id.map .u8, true⟩), (2, ⟨(ends j (cnF o hd rest ds)).map .u8, true⟩)], 3⟩
set_option maxHeartbeats 8000000 in
theorem rCand_fun (o : Ots) (id : By) (q : BitVec 32) (msg sig : By) (h : otsT o.code = some o) (hid : id.length = 16) (hm : msg.length ≤ 100000000) (hsg : sig.length ≤ 140737488351232) :
    Fun Tryd.prog Gs 54 [Enc.enc o, Enc.enc (⟨id⟩ : Ar (BitVec 8)), Enc.enc q, Enc.enc msg, Enc.enc sig] (CandR o id q msg sig) := by
  refine Fun_cc [ctOtsLen 83, ctRBig, ctEqual, ctRSaid, ctMost, ctRChain, ctRShut] mo Tryd.func54 (by decide) cc54 rs54 Tryd.ntmps54 (by simp) ?_
  have hct := ctROtsLen_ok (ctRBig_ok (ctEqual_ok (ctRSaid_ok (ctMost_ok (ctRChain_ok (ctRShut_ok CtOK_nil))))))
  have hit : id.take 16 = id := List.take_of_length_le (by omega)
  have ho := otsT_ok h
  have hp := ho.p
  have hn := ho.n
  have hw := ho.w
  have hw1 : 0 ≤ o.w ∧ o.w ≤ 61 := by rcases hw with h | h | h | h <;> omega
  have htn := topN_eq ho
  have htl := topN_le ho
  have hsm := otsSm_of ho
  have hbl := bigL_len (o.code.setWidth 64) 4
  by_cases c1 : (sig.length : Int) = otsLen o
  · have hol := otsLen_eq h
    have hpn : o.n * (o.p + 1) = ((o.p.toNat + 1) * o.n.toNat : Nat) := by
      rw [Int.natCast_mul, Int.mul_comm]; congr 1 <;> omega
    have hsl : sig.length = 4 + (o.p.toNat + 1) * o.n.toNat := by omega
    have hsl2 : sig.length = 4 + o.n.toNat + o.p.toNat * o.n.toNat := by rw [hsl, Nat.succ_mul]; omega
    have c4 : (4 : Int) ≤ sig.length := by omega
    by_cases c2 : sig.take 4 = bigL (o.code.setWidth 64) 4
    · have hE : cnE o sig = 0 := by rw [cnE, if_pos h, if_pos ⟨c1, c2⟩]
      have hdl := hd_len (q := q) hid
      rw [CandR, if_pos hE]
      obtain ⟨hd, hhd⟩ : ∃ hd, hd = hdS id q := ⟨_, rfl⟩
      rw [← hhd] at hdl ⊢
      have e4 : (4 + o.n).toNat = 4 + o.n.toNat := by omega
      have e4n : (4 : Int) + o.n ≤ sig.length := by omega
      have hcc : (sig.drop 4).take o.n.toNat = cnC o sig := rfl
      have hcl : (cnC o sig).length = o.n.toNat := by rw [cnC]; simp; omega
      obtain ⟨rest, hrest⟩ : ∃ rest, rest = sig.drop (4 + o.n.toNat) := ⟨_, rfl⟩
      have hrl : rest.length = o.p.toNat * o.n.toNat := by rw [hrest]; simp; omega
      have hA : 4 + o.n.toNat - 4 = o.n.toNat := by omega
      obtain ⟨ds, hds⟩ : ∃ ds, ds = cnD o hd msg sig := ⟨_, rfl⟩
      have hdd : digS o (msgS (hO o) hd (cnC o sig) msg) = ds := hds.symm
      have hdsl : (ds.length : Int) = o.p := by rw [← hdd]; exact digS_len o _ ho (hO_len ho _)
      have hfin : cnO o hd msg sig = shutS (hO o) hd (ends ds.length (cnF o hd rest ds)) := by rw [cnO, ← hds, hrest]
      have hll := ends_len' (cnF o hd rest ds) ds.length (fun i hi => cnF_len ho hd rest ds i o.p.toNat (by omega) hrl)
      rw [hfin]
      refine AW_run hct 1000 ?_
      simp (maxSteps := 10000000) (disch := omega) only [go_sem, c54, ctOtsLen, ctRBig, ctEqual, ctRSaid, ctMost, ctRChain, ctRShut, hsm, c1, c2, c4, hbl, hid, hit, ho, e4, e4n, hA, hcc, hcl, ← hhd, hdd, hm, reduceIte, seval, -BitVec.isValue, -BitVec.reduceOfNat, -List.reduceReplicate]
      refine AW_loop (σrcn o id q hd sig rest ds) (fun j => j ≤ ds.length) (fun j => ds.length - j) 0 (Nat.zero_le _) (Wk_p [] ?_) fun j hj => ?_
      · simp only [go_sem, σrcn, ends_zero, otsC, reduceIte, seval, -BitVec.isValue, -BitVec.reduceOfNat, -List.reduceReplicate]
        try simp
      · refine AW_ct [ctOtsLen 83, ctRBig, ctEqual, ctRSaid, ctMost, ctRChain, ctRShut] (AW_run hct 1000 ?_)
        have hjl := hll j hj
        have hmul : j * o.n.toNat ≤ 265 * 32 := Nat.mul_le_mul (by omega) (by omega)
        by_cases hc : j < ds.length
        · have hc' : (j : Int) < ds.length := by omega
          have hdj : 0 ≤ ds.getD j 0 ∧ ds.getD j 0 ≤ topN o := by rw [← hdd]; exact digS_at ho (by rw [hdd]; exact hc)
          have hmul2 : (j + 1) * o.n.toNat ≤ o.p.toNat * o.n.toNat := Nat.mul_le_mul_right _ (by omega)
          have hpm : o.p.toNat * o.n.toNat ≤ 265 * 32 := Nat.mul_le_mul (by omega) (by omega)
          have hsm1 : (j + 1) * o.n.toNat = j * o.n.toNat + o.n.toNat := Nat.succ_mul _ _
          have hi1 : (j : Int) * o.n = ((j * o.n.toNat : Nat) : Int) := by rw [Int.natCast_mul]; congr 1; omega
          have hi2 : (4 + o.n + ((j * o.n.toNat : Nat) : Int)).toNat = 4 + o.n.toNat + j * o.n.toNat := by omega
          have hi3 : (4 + o.n + ((j * o.n.toNat : Nat) : Int) + o.n).toNat = 4 + o.n.toNat + j * o.n.toNat + o.n.toNat := by omega
          have hsub : 4 + o.n.toNat + j * o.n.toNat + o.n.toNat - (4 + o.n.toNat + j * o.n.toNat) = o.n.toNat := by omega
          have hxr : (sig.drop (4 + o.n.toNat + j * o.n.toNat)).take o.n.toNat = (rest.drop (j * o.n.toNat)).take o.n.toNat := by rw [hrest, List.drop_drop]
          have htt : ((2 : Int) ^ o.w.toNat - 1) = ((topN o : Nat) : Int) := htn.symm
          have hst : ((topN o : Int) - ds.getD j 0).toNat = topN o - (ds.getD j 0).toNat := by omega
          have hpf : chn (hO o) (preS hd j) (ds.getD j 0).toNat (topN o - (ds.getD j 0).toNat) ((rest.drop (j * o.n.toNat)).take o.n.toNat) = cnF o hd rest ds j := rfl
          have hpl := cnF_len ho hd rest ds j o.p.toNat (by omega) hrl
          have hxl : ((rest.drop (j * o.n.toNat)).take o.n.toNat).length = o.n.toNat := by simp; omega
          simp (maxSteps := 10000000) (disch := omega) only [go_sem, σrcn, otsC, hc', hjl, hw1, htt, ho, hid, hit, ← hhd, hi1, hi2, hi3, hsub, hxr, hst, hxl, hpf, hpl, ctOtsLen, ctRBig, ctEqual, ctRSaid, ctMost, ctRChain, ctRShut, reduceIte, seval, -BitVec.isValue, -BitVec.reduceOfNat, -List.reduceReplicate]
          refine ⟨j + 1, by omega, Wk_p [(2, 3)] ?_, by omega⟩
          simp only [go_sem, σrcn, otsC, reduceIte, seval, -BitVec.isValue, -BitVec.reduceOfNat, -List.reduceReplicate]
          simp [ends_succ, hjl, hpl]
        · have hge : j = ds.length := by omega
          have hc' : ¬ (j : Int) < ds.length := by omega
          have hej : (ends j (cnF o hd rest ds)).take (j * o.n.toNat) = ends j (cnF o hd rest ds) := List.take_of_length_le (by omega)
          have hjb : (ends j (cnF o hd rest ds)).length ≤ 100000000 := by omega
          rw [← hge]
          simp (maxSteps := 10000000) (disch := omega) only [go_sem, σrcn, otsC, hc', hjl, hej, ho, hid, hit, ← hhd, hjb, ctOtsLen, ctRBig, ctEqual, ctRSaid, ctMost, ctRChain, ctRShut, reduceIte, seval, -BitVec.isValue, -BitVec.reduceOfNat, -List.reduceReplicate]
          try simp
    · have hE : cnE o sig = 70 := by rw [cnE, if_pos h, if_neg (fun h => c2 h.2)]
      rw [CandR, hE, if_neg (by decide)]
      refine AW_run hct 1000 ?_
      simp (maxSteps := 10000000) (disch := omega) only [go_sem, c54, ctOtsLen, ctRBig, ctEqual, ctRSaid, ctMost, ctRChain, ctRShut, hsm, c1, c2, c4, hbl, nilE, reduceIte, seval, -BitVec.isValue, -BitVec.reduceOfNat, -List.reduceReplicate]
  · have hE : cnE o sig = 70 := by rw [cnE, if_pos h, if_neg (fun h => c1 h.1)]
    rw [CandR, hE, if_neg (by decide)]
    refine AW_run hct 1000 ?_
    simp (maxSteps := 10000000) (disch := omega) only [go_sem, c54, ctOtsLen, ctRBig, ctEqual, ctRSaid, ctMost, ctRChain, ctRShut, hsm, c1, nilE, reduceIte, seval, -BitVec.isValue, -BitVec.reduceOfNat, -List.reduceReplicate]
def ctRCand : Nat × (List AV → R) := (54, A5 fun (o : Ots) (id : Ar (BitVec 8)) (q : BitVec 32) (msg sig : By) => (otsT o.code = some o ∧ id.l.length = 16 ∧ msg.length ≤ 100000000 ∧ sig.length ≤ 140737488351232, CandR o id.l q msg sig))
theorem ctRCand_ok {Ct : List (Nat × (List AV → R))} (h : CtOK Tryd.prog Gs Ct) : CtOK Tryd.prog Gs (ctRCand :: Ct) := CtOK_cons (Row5 fun o id q m s h => rCand_fun o id.l q m s h.1 h.2.1 h.2.2.1 h.2.2.2) h

set_option maxHeartbeats 4000000 in
theorem LSigns_fun (k : Leaf) (msg : By) (hk : k.ok) (hm : msg.length ≤ 140737488351232) : Fun Tryd.prog Gs 8 [.agg k.c, Enc.enc msg] (.b true) := by
  refine Fun_cc [ctLive, ctSet, ctLSign, ctRMay, ctRSign, ctEqual] mo Tryd.func8 (by decide) cc8 rs8 Tryd.ntmps8 (by simp) ?_
  have hct := ctLive_ok (ctSet_ok (ctLSign_ok (ctRMay_ok (ctRSign_ok (ctEqual_ok CtOK_nil)))))
  by_cases hbig : (3000 : Int) < msg.length
  · refine AW_run hct 1000 ?_
    simp (maxSteps := 10000000) (disch := omega) only [go_sem, c8, ctLive, ctSet, ctLSign, ctRMay, ctRSign, ctEqual, hbig, reduceIte, seval, -BitVec.isValue, -BitVec.reduceOfNat, -List.reduceReplicate]
  have hid := hk.id
  have hit : k.id.take 16 = k.id := List.take_of_length_le (by omega)
  have ho := setS_ok k.code
  have hmm : msg.length ≤ 100000000 := by omega
  obtain ⟨o, hoo⟩ : ∃ o, o = setS k.code := ⟨_, rfl⟩
  rw [← hoo] at ho
  by_cases h0 : rMay o k.seed = 0
  · obtain ⟨h, hs⟩ := rMay_0 h0
    have hR : SignR o k.id k.q k.seed msg = .tup [Enc.ret (sigO o (hdS k.id k.q) k.seed msg), .i 0] := by rw [SignR, if_pos h0]
    refine AW_run hct 1000 ?_
    simp (maxSteps := 10000000) (disch := omega) only [go_sem, c8, ctLive, ctSet, ctLSign, ctRMay, ctRSign, ctEqual, hbig, Lc_len hid, Lc_0, Lc_1 hid, Lc_17 hid, Lc_18 hid, ← hoo, hid, hit, h0, hR, ho, hs, hmm, hm, reduceIte, seval, -BitVec.isValue, -BitVec.reduceOfNat, -List.reduceReplicate]
  · have hR : SignR o k.id k.q k.seed msg = nilE (rMay o k.seed) := by rw [SignR, if_neg h0]
    obtain ⟨e, he⟩ : ∃ e, e = rMay o k.seed := ⟨_, rfl⟩
    rw [← he] at h0 hR
    refine AW_run hct 1000 ?_
    simp (maxSteps := 10000000) (disch := omega) only [go_sem, c8, ctLive, ctSet, ctLSign, ctRMay, ctRSign, ctEqual, hbig, Lc_len hid, Lc_0, Lc_1 hid, Lc_17 hid, Lc_18 hid, ← hoo, hid, hit, h0, hR, ← he, nilE, hm, reduceIte, seval, -BitVec.isValue, -BitVec.reduceOfNat, -List.reduceReplicate]

set_option maxHeartbeats 4000000 in
theorem LCands_fun (k : Leaf) (msg sig : By) (hk : k.ok) (hm : msg.length ≤ 140737488351232) (hsg : sig.length ≤ 140737488351232) : Fun Tryd.prog Gs 11 [.agg k.c, Enc.enc msg, Enc.enc sig] (.b true) := by
  refine Fun_cc [ctLive, ctSet, ctLCand, ctRMayOts, ctRCand, ctEqual] mo Tryd.func11 (by decide) cc11 rs11 Tryd.ntmps11 (by simp) ?_
  have hct := ctLive_ok (ctSet_ok (ctLCand_ok (ctRMayOts_ok (ctRCand_ok (ctEqual_ok CtOK_nil)))))
  by_cases hbig : (3000 : Int) < msg.length
  · refine AW_run hct 1000 ?_
    simp (maxSteps := 10000000) (disch := omega) only [go_sem, c11, ctLive, ctSet, ctLCand, ctRMayOts, ctRCand, ctEqual, hbig, reduceIte, seval, -BitVec.isValue, -BitVec.reduceOfNat, -List.reduceReplicate]
  have hid := hk.id
  have hit : k.id.take 16 = k.id := List.take_of_length_le (by omega)
  have hmm : msg.length ≤ 100000000 := by omega
  obtain ⟨o, hoo⟩ : ∃ o, o = setS k.code := ⟨_, rfl⟩
  by_cases h : otsT o.code = some o
  · by_cases hE : cnE o sig = 0
    · have hR : CandR o k.id k.q msg sig = .tup [Enc.ret (cnO o (hdS k.id k.q) msg sig), .i 0] := by rw [CandR, if_pos hE]
      refine AW_run hct 1000 ?_
      simp (maxSteps := 10000000) (disch := omega) only [go_sem, c11, ctLive, ctSet, ctLCand, ctRMayOts, ctRCand, ctEqual, hbig, Lc_len hid, Lc_0, Lc_1 hid, Lc_17 hid, Lc_18 hid, ← hoo, hid, hit, h, hR, hmm, hm, hsg, reduceIte, seval, -BitVec.isValue, -BitVec.reduceOfNat, -List.reduceReplicate]
    · have hR : CandR o k.id k.q msg sig = nilE (cnE o sig) := by rw [CandR, if_neg hE]
      refine AW_run hct 1000 ?_
      simp (maxSteps := 10000000) (disch := omega) only [go_sem, c11, ctLive, ctSet, ctLCand, ctRMayOts, ctRCand, ctEqual, hbig, Lc_len hid, Lc_0, Lc_1 hid, Lc_17 hid, Lc_18 hid, ← hoo, hid, hit, h, hR, nilE, hmm, hm, hsg, reduceIte, seval, -BitVec.isValue, -BitVec.reduceOfNat, -List.reduceReplicate]
      try simp
  · have hE : cnE o sig = 60 := by rw [cnE, if_neg h]
    have hR : CandR o k.id k.q msg sig = nilE 60 := by rw [CandR, hE, if_neg (by decide)]
    refine AW_run hct 1000 ?_
    simp (maxSteps := 10000000) (disch := omega) only [go_sem, c11, ctLive, ctSet, ctLCand, ctRMayOts, ctRCand, ctEqual, hbig, Lc_len hid, Lc_0, Lc_1 hid, Lc_17 hid, Lc_18 hid, ← hoo, hid, hit, h, hR, nilE, hmm, hm, hsg, reduceIte, seval, -BitVec.isValue, -BitVec.reduceOfNat, -List.reduceReplicate]
end Go.Lv
