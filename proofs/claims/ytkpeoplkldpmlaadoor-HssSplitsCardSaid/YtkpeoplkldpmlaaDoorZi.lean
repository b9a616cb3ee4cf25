/- A part of the proof. -/
import Derived.Test.YtkpeoplkldpmlaaDoorZh
import Derived.Test.YtkpeoplkldpmlaaDoorGU
import Derived.Test.YtkpeoplkldpmlaaDoorGK
set_option linter.all false
namespace Go.Lv
open Go Go.Proofs
set_option linter.unusedSimpArgs false
set_option maxRecDepth 100000

set_option maxHeartbeats 1000000 in
theorem rsaid_fun (o : Ots) (id : By) (q : BitVec 32) (c msg : By) (ho : OtsOK o) (hid : id.length = 16) (hc : c.length ≤ 100000000) (hm : msg.length ≤ 100000000) :
    Fun Tryd.prog Gs 120 [Enc.enc o, Enc.enc (⟨id⟩ : Ar (BitVec 8)), Enc.enc q, Enc.enc c, Enc.enc msg] (Enc.ret (digS o (msgS (hO o) (hdS id q) c msg))) := by
  refine Fun_cc [mark 22, ctHead, ctRBig, ctJoin, ctRSum, ctRDigits] mo Tryd.func120 (by decide) cc120 rs120 Tryd.ntmps120 (by simp) ?_
  have hct := mark_ok 22 (ctHead_ok (ctRBig_ok (ctJoin_ok (ctRSum_ok (ctRDigits_ok CtOK_nil)))))
  have hit : id.take 16 = id := List.take_of_length_le (by omega)
  have hn := ho.n
  have hdl := hd_len (q := q) hid
  have hbl := bigL_len (33153 : BitVec 64) 2
  have hbl2 := bigL_len (0x8181#64) 2
  have hfl : [hdS id q, bigL (33153 : BitVec 64) 2, c, msg].flatten = hdS id q ++ bigL 0x8181#64 2 ++ c ++ msg := by simp
  have hsh : hsumS o.shake o.n.toNat (hdS id q ++ bigL 0x8181#64 2 ++ c ++ msg) = msgS (hO o) (hdS id q) c msg := rfl
  have hln := hO_len ho (hdS id q ++ bigL 0x8181#64 2 ++ c ++ msg)
  have hml : ((msgS (hO o) (hdS id q) c msg).length : Int) = o.n := hln
  refine AW_run hct 1000 ?_
  simp (maxSteps := 10000000) (disch := omega) only [go_sem, c120, mark, ctHead, ctRBig, ctJoin, ctRSum, ctRDigits, ho, hid, hit, hdl, hbl, hbl2, hfl, hsh, hml, deL_cons, deL_nil, reduceIte, seval, -BitVec.isValue, -BitVec.reduceOfNat, -List.reduceReplicate]
def ctRSaid : Nat × (List AV → R) := (120, A5 fun (o : Ots) (id : Ar (BitVec 8)) (q : BitVec 32) (c msg : By) => (OtsOK o ∧ id.l.length = 16 ∧ c.length ≤ 100000000 ∧ msg.length ≤ 100000000, Enc.ret (digS o (msgS (hO o) (hdS id.l q) c msg))))
theorem ctRSaid_ok {Ct : List (Nat × (List AV → R))} (h : CtOK Tryd.prog Gs Ct) : CtOK Tryd.prog Gs (ctRSaid :: Ct) := CtOK_cons (Row5 fun o id q c m h => rsaid_fun o id.l q c m h.1 h.2.1 h.2.2.1 h.2.2.2) h

def σrsi (o : Ots) (id : By) (q : BitVec 32) (seed : By) (ds : List Int) (j : Nat) : St :=
  ⟨[(2, .u32 q), (3, Enc.enc seed), (5, .ptr 0 0), (6, .ptr 1 0), (12, .sl 2 0 (sigH o (hdS id q) seed ++ ends j (sgF (hO o) (hdS id q) seed ds)).length 1), (32, Enc.ret ds), (33, .i ds.length), (34, .i j)],
   [(0, ⟨otsC o, true⟩), (1, ⟨id.map .u8, true⟩), (2, ⟨(sigH o (hdS id q) seed ++ ends j (sgF (hO o) (hdS id q) seed ds)).map .u8, true⟩)], 3⟩
set_option maxHeartbeats 8000000 in
theorem rSign_fun (o : Ots) (id : By) (q : BitVec 32) (seed msg : By) (ho : OtsOK o) (hid : id.length = 16) (hs : (seed.length : Int) = o.n) (hm : msg.length ≤ 100000000) :
    Fun Tryd.prog Gs 44 [Enc.enc o, Enc.enc (⟨id⟩ : Ar (BitVec 8)), Enc.enc q, Enc.enc seed, Enc.enc msg] (Enc.ret (sigO o (hdS id q) seed msg)) := by
  refine Fun_cc [mark 25, ctRRandom, ctRBig, ctRSaid, ctRSecret, ctRChain] mo Tryd.func44 (by decide) cc44 rs44 Tryd.ntmps44 (by simp) ?_
  have hct := mark_ok 25 (ctRRandom_ok (ctRBig_ok (ctRSaid_ok (ctRSecret_ok (ctRChain_ok CtOK_nil)))))
  have hit : id.take 16 = id := List.take_of_length_le (by omega)
  have hp := ho.p
  have hn := ho.n
  have htl := topN_le ho
  have hc65 : secS (hO o) (hdS id q) seed 65533 = sgC o (hdS id q) seed := rfl
  have hcl : ((sgC o (hdS id q) seed).length : Int) = o.n := secS_len ho (hdS id q) seed 65533
  have hbl := bigL_len (o.code.setWidth 64) 4
  have hcn : (sgC o (hdS id q) seed).length ≤ 100000000 := by omega
  have hsn : seed.length ≤ 100000000 := by omega
  have hdd : digS o (msgS (hO o) (hdS id q) (sgC o (hdS id q) seed) msg) = sgD o (hdS id q) seed msg := rfl
  have hfl : [bigL (o.code.setWidth 64) 4, sgC o (hdS id q) seed].flatten = sigH o (hdS id q) seed := by simp [sigH]
  have hsl := sigH_len ho (hdS id q) seed
  refine AW_run hct 1000 ?_
  simp (maxSteps := 10000000) (disch := omega) only [go_sem, c44, mark, ctRRandom, ctRBig, ctRSaid, ctRSecret, ctRChain, ho, hid, hit, hsn, hc65, hbl, reduceIte, seval, -BitVec.isValue, -BitVec.reduceOfNat, -List.reduceReplicate]
  refine AW_callG [] [(0, 3)] 4 [] false (by simp only [go_sem, reduceIte, seval, -BitVec.isValue, -BitVec.reduceOfNat, -List.reduceReplicate]) (by simp only [go_sem, reduceIte, seval, -BitVec.isValue, -BitVec.reduceOfNat, -List.reduceReplicate]) (Join_funG [bigL (o.code.setWidth 64) 4, sgC o (hdS id q) seed] (by simp) (by rw [hfl]; omega)) (by rfl) (.inr rfl) (by simp only [go_sem, reduceIte, seval, -BitVec.isValue, -BitVec.reduceOfNat, -List.reduceReplicate]) (by rfl) (by simp only [go_sem, hbl, reduceIte, seval, -BitVec.isValue, -BitVec.reduceOfNat, -List.reduceReplicate]; try simp [hbl]) (by simp only [go_sem, reduceIte, seval, -BitVec.isValue, -BitVec.reduceOfNat, -List.reduceReplicate]) (by simp only [go_sem, reduceIte, seval, -BitVec.isValue, -BitVec.reduceOfNat, -List.reduceReplicate]) (by simp only [go_sem, reduceIte, seval, -BitVec.isValue, -BitVec.reduceOfNat, -List.reduceReplicate]) ?_
  refine AW_ct [mark 25, ctRRandom, ctRBig, ctRSaid, ctRSecret, ctRChain] (AW_run hct 1000 ?_)
  obtain ⟨ds, hds⟩ : ∃ ds, ds = sgD o (hdS id q) seed msg := ⟨_, rfl⟩
  have hdsl := sgD_len ho (hdS id q) seed msg
  rw [← hds] at hdsl hdd
  have hll : ∀ j, (ends j (sgF (hO o) (hdS id q) seed ds)).length = j * o.n.toNat := ends_len _ (sgF_len ho (hdS id q) seed ds)
  simp (maxSteps := 10000000) (disch := omega) only [go_sem, mark, ctRRandom, ctRBig, ctRSaid, ctRSecret, ctRChain, hfl, ho, hid, hit, hm, hcn, hdd, reduceIte, seval, -BitVec.isValue, -BitVec.reduceOfNat, -List.reduceReplicate]
  refine AW_loop (σrsi o id q seed ds) (fun j => j ≤ ds.length) (fun j => ds.length - j) 0 (Nat.zero_le _) (Wk_p [(2, 3)] ?_) fun j hj => ?_
  · simp only [go_sem, σrsi, ends_zero, otsC, reduceIte, seval, -BitVec.isValue, -BitVec.reduceOfNat, -List.reduceReplicate]
    try simp
  · refine AW_ct [mark 25, ctRRandom, ctRBig, ctRSaid, ctRSecret, ctRChain] (AW_run hct 1000 ?_)
    have hjl := hll j
    have hall : (sigH o (hdS id q) seed ++ ends j (sgF (hO o) (hdS id q) seed ds)).length = (sigH o (hdS id q) seed).length + j * o.n.toNat := by rw [List.length_append, hjl]
    have hmul : j * o.n.toNat ≤ 265 * 32 := Nat.mul_le_mul (by omega) (by omega)
    obtain ⟨u, hu⟩ : ∃ u, u = sigH o (hdS id q) seed ++ ends j (sgF (hO o) (hdS id q) seed ds) := ⟨_, rfl⟩
    rw [← hu] at hall
    by_cases hc : j < ds.length
    · have hc' : (j : Int) < ds.length := by omega
      have hdj : 0 ≤ ds.getD j 0 ∧ ds.getD j 0 ≤ topN o := by rw [← hdd]; exact digS_at ho (by rw [hdd]; exact hc)
      have hsl2 := secS_len ho (hdS id q) seed j
      have hpf : chn (hO o) (preS (hdS id q) j) 0 (ds.getD j 0).toNat (secS (hO o) (hdS id q) seed j) = sgF (hO o) (hdS id q) seed ds j := rfl
      have hpl := sgF_len ho (hdS id q) seed ds j
      have hsn2 : (secS (hO o) (hdS id q) seed j).length ≤ 1000000 := by omega
      simp (maxSteps := 10000000) (disch := omega) only [go_sem, σrsi, ← hu, otsC, hc', hall, ho, hid, hit, hsn, hsn2, Int.sub_zero, hpf, hpl, mark, ctRRandom, ctRBig, ctRSaid, ctRSecret, ctRChain, reduceIte, seval, -BitVec.isValue, -BitVec.reduceOfNat, -List.reduceReplicate]
      refine ⟨j + 1, by omega, Wk_p [(2, 3)] ?_, by omega⟩
      have hu1 : sigH o (hdS id q) seed ++ ends (j + 1) (sgF (hO o) (hdS id q) seed ds) = u ++ sgF (hO o) (hdS id q) seed ds j := by rw [ends_succ, ← List.append_assoc, ← hu]
      simp only [go_sem, σrsi, otsC, hu1, reduceIte, seval, -BitVec.isValue, -BitVec.reduceOfNat, -List.reduceReplicate]
      simp [hall, hpl, ends_succ, hjl]
      try omega
    · have hge : j = ds.length := by omega
      have hc' : ¬ (j : Int) < ds.length := by omega
      have hfin : u = sigO o (hdS id q) seed msg := by
        rw [hu, sigO, lsgS, ← hds, hge]; rfl
      simp (maxSteps := 10000000) (disch := omega) only [go_sem, σrsi, ← hu, otsC, hc', hall, mark, ctRRandom, ctRBig, ctRSaid, ctRSecret, ctRChain, reduceIte, seval, -BitVec.isValue, -BitVec.reduceOfNat, -List.reduceReplicate]
      rw [← hfin, ← hall]
      simp
def ctRSign : Nat × (List AV → R) := (44, A5 fun (o : Ots) (id : Ar (BitVec 8)) (q : BitVec 32) (seed msg : By) => (OtsOK o ∧ id.l.length = 16 ∧ (seed.length : Int) = o.n ∧ msg.length ≤ 100000000, Enc.ret (sigO o (hdS id.l q) seed msg)))
theorem ctRSign_ok {Ct : List (Nat × (List AV → R))} (h : CtOK Tryd.prog Gs Ct) : CtOK Tryd.prog Gs (ctRSign :: Ct) := CtOK_cons (Row5 fun o id q s m h => rSign_fun o id.l q s m h.1 h.2.1 h.2.2.1 h.2.2.2) h
end Go.Lv
