/- A part of the proof. -/
import Derived.Test.YtkpeoplkldpmlaaDoorGZ
import Derived.Test.YtkpeoplkldpmlaaDoorGY
import Derived.Test.YtkpeoplkldpmlaaDoorGK
set_option linter.all false
namespace Go.Lv
open Go Go.Proofs
set_option linter.unusedSimpArgs false
set_option maxRecDepth 100000

theorem digS_mem {o : Ots} {s : By} {d : Int} (h : d ∈ digS o s) : 0 ≤ d ∧ d ≤ 2 ^ o.w.toNat - 1 := by
  rcases List.mem_append.1 h with h | h
  · exact cutS_range d h
  · exact cutS_range d h
theorem digS_at {o : Ots} (ho : OtsOK o) {s : By} {j : Nat} (h : j < (digS o s).length) : 0 ≤ (digS o s).getD j 0 ∧ (digS o s).getD j 0 ≤ topN o := by
  rw [topN_eq ho]
  have hm : (digS o s).getD j 0 ∈ digS o s := by simp [List.getD_eq_getElem?_getD, h]
  exact digS_mem hm
def sgF (H : By → By) (hd seed : By) (ds : List Int) (i : Nat) : By := chn H (preS hd i) 0 (ds.getD i 0).toNat (secS H hd seed i)
theorem sgF_len {o : Ots} (ho : OtsOK o) (hd seed : By) (ds : List Int) (i : Nat) : (sgF (hO o) hd seed ds i).length = o.n.toNat := by
  have hn := ho.n
  exact chn_len (hO o) (fun t => by have := hO_len ho t; omega) _ _ _ _ (by have := secS_len ho hd seed i; omega)
def sgC (o : Ots) (hd seed : By) : By := secS (hO o) hd seed 65533
def sgD (o : Ots) (hd seed msg : By) : List Int := digS o (msgS (hO o) hd (sgC o hd seed) msg)
def sigH (o : Ots) (hd seed : By) : By := bigL (o.code.setWidth 64) 4 ++ sgC o hd seed
def sigO (o : Ots) (hd seed msg : By) : By := sigH o hd seed ++ lsgS (hO o) hd (sgD o hd seed msg) seed
theorem sgD_len {o : Ots} (ho : OtsOK o) (hd seed msg : By) : ((sgD o hd seed msg).length : Int) = o.p := digS_len o _ ho (hO_len ho _)
theorem sigH_len {o : Ots} (ho : OtsOK o) (hd seed : By) : ((sigH o hd seed).length : Int) = 4 + o.n := by
  have := secS_len ho hd seed 65533
  simp [sigH, sgC, bigL_len]; omega
def SignR (o : Ots) (id : By) (q : BitVec 32) (seed msg : By) : AV :=
  if rMay o seed = 0 then .tup [Enc.ret (sigO o (hdS id q) seed msg), .i 0] else nilE (rMay o seed)
def σsi (o : Ots) (hd seed : By) (ds : List Int) (j : Nat) : St :=
  ⟨[(3, Enc.enc seed), (13, .ptr 2 0), (15, .sl 3 0 (sigH o hd seed ++ ends j (sgF (hO o) hd seed ds)).length 1), (40, Enc.ret ds), (41, .i ds.length), (42, .i j)],
   [(2, ⟨lfC o hd, true⟩), (3, ⟨(sigH o hd seed ++ ends j (sgF (hO o) hd seed ds)).map .u8, true⟩)], 4⟩
set_option maxHeartbeats 4000000 in
theorem Sign_fun (o : Ots) (id : By) (q : BitVec 32) (seed msg : By) (hid : id.length = 16) (hm : msg.length ≤ 140737488351232) : Fun Tryd.prog Gs 43 [Enc.enc o, Enc.enc (⟨id⟩ : Ar (BitVec 8)), Enc.enc q, Enc.enc seed, Enc.enc msg] (SignR o id q seed msg) := by
  refine Fun_cc [mark 35, ctSeeded, ctAt, ctSec, ctU32, ctSaid, ctGoes] mo Tryd.func43 (by decide) cc43 rs43 Tryd.ntmps43 (by simp) ?_
  have hct := mark_ok 35 (ctSeeded_ok (ctAt_ok (ctSec_ok (ctU32_ok (ctSaid_ok (ctGoes_ok CtOK_nil))))))
  have hit : id.take 16 = id := List.take_of_length_le (by omega)
  by_cases h0 : rMay o seed = 0
  · obtain ⟨h, hs⟩ := rMay_0 h0
    have ho := otsT_ok h
    have hp := ho.p
    have hn := ho.n
    have htl := topN_le ho
    have hle := leOK_of h hid q
    have hdl := hd_len (q := q) hid
    obtain ⟨hd, hhd⟩ : ∃ hd, hd = hdS id q := ⟨_, rfl⟩
    rw [← hhd] at hle hdl
    have hc65 : secS (hO o) hd seed 65533 = sgC o hd seed := rfl
    have hcl : ((sgC o hd seed).length : Int) = o.n := secS_len ho hd seed 65533
    have hbl := bigL_len (o.code.setWidth 64) 4
    have hR : SignR o id q seed msg = .tup [Enc.ret (sigO o hd seed msg), .i 0] := by rw [SignR, if_pos h0, ← hhd]
    have hsn : seed.length ≤ 140737488351232 := by omega
    have hcn : (sgC o hd seed).length ≤ 140737488351232 := by omega
    have hdd : digS o (msgS (hO o) hd (sgC o hd seed) msg) = sgD o hd seed msg := rfl
    have hfl : [bigL (o.code.setWidth 64) 4, sgC o hd seed].flatten = sigH o hd seed := by simp [sigH]
    have hsl := sigH_len ho hd seed
    rw [hR]
    refine AW_run hct 1000 ?_
    simp (maxSteps := 10000000) (disch := omega) only [go_sem, c43, mark, ctSeeded, ctAt, ctSec, ctU32, ctSaid, ctGoes, h0, hid, hit, ← hhd, hdl, hle, hsn, hc65, hbl, reduceIte, seval, -BitVec.isValue, -BitVec.reduceOfNat, -List.reduceReplicate]
    refine AW_callG [] [(0, 4)] 5 [] false (by simp only [go_sem, reduceIte, seval, -BitVec.isValue, -BitVec.reduceOfNat, -List.reduceReplicate]) (by simp only [go_sem, reduceIte, seval, -BitVec.isValue, -BitVec.reduceOfNat, -List.reduceReplicate]) (OJoin_funG [bigL (o.code.setWidth 64) 4, sgC o hd seed] (by simp) (by rw [hfl]; omega)) (by rfl) (.inr rfl) (by simp only [go_sem, reduceIte, seval, -BitVec.isValue, -BitVec.reduceOfNat, -List.reduceReplicate]) (by rfl) (by simp only [go_sem, hbl, reduceIte, seval, -BitVec.isValue, -BitVec.reduceOfNat, -List.reduceReplicate]; try simp [hbl]) (by simp only [go_sem, reduceIte, seval, -BitVec.isValue, -BitVec.reduceOfNat, -List.reduceReplicate]) (by simp only [go_sem, reduceIte, seval, -BitVec.isValue, -BitVec.reduceOfNat, -List.reduceReplicate]) (by simp only [go_sem, reduceIte, seval, -BitVec.isValue, -BitVec.reduceOfNat, -List.reduceReplicate]) ?_
    refine AW_ct [mark 35, ctSeeded, ctAt, ctSec, ctU32, ctSaid, ctGoes] (AW_run hct 1000 ?_)
    obtain ⟨ds, hds⟩ : ∃ ds, ds = sgD o hd seed msg := ⟨_, rfl⟩
    have hdsl := sgD_len ho hd seed msg
    rw [← hds] at hdsl hdd
    have hll : ∀ j, (ends j (sgF (hO o) hd seed ds)).length = j * o.n.toNat := ends_len _ (sgF_len ho hd seed ds)
    simp (maxSteps := 10000000) (disch := omega) only [go_sem, mark, ctSeeded, ctAt, ctSec, ctU32, ctSaid, ctGoes, hfl, hle, hm, hcn, hdd, reduceIte, seval, -BitVec.isValue, -BitVec.reduceOfNat, -List.reduceReplicate]
    refine AW_loop (σsi o hd seed ds) (fun j => j ≤ ds.length) (fun j => ds.length - j) 0 (Nat.zero_le _) (Wk_p [(3, 4)] ?_) fun j hj => ?_
    · simp only [go_sem, σsi, ends_zero, lfC, reduceIte, seval, -BitVec.isValue, -BitVec.reduceOfNat, -List.reduceReplicate]
      try simp [hdl]
    · refine AW_ct [mark 35, ctSeeded, ctAt, ctSec, ctU32, ctSaid, ctGoes] (AW_run hct 1000 ?_)
      have hjl := hll j
      have hall : (sigH o hd seed ++ ends j (sgF (hO o) hd seed ds)).length = (sigH o hd seed).length + j * o.n.toNat := by rw [List.length_append, hjl]
      have hmul : j * o.n.toNat ≤ 265 * 32 := Nat.mul_le_mul (by omega) (by omega)
      obtain ⟨u, hu⟩ : ∃ u, u = sigH o hd seed ++ ends j (sgF (hO o) hd seed ds) := ⟨_, rfl⟩
      rw [← hu] at hall
      by_cases hc : j < ds.length
      · have hc' : (j : Int) < ds.length := by omega
        have hdj : 0 ≤ ds.getD j 0 ∧ ds.getD j 0 ≤ topN o := by rw [← hdd]; exact digS_at ho (by rw [hdd]; exact hc)
        have hsl2 := secS_len ho hd seed j
        have hpf : chn (hO o) (preS hd j) 0 (ds.getD j 0).toNat (secS (hO o) hd seed j) = sgF (hO o) hd seed ds j := rfl
        have hpl := sgF_len ho hd seed ds j
        have hsn2 : (secS (hO o) hd seed j).length ≤ 1000000 := by omega
        simp (maxSteps := 10000000) (disch := omega) only [go_sem, σsi, ← hu, lfC, hc', hall, hle, hsn, hsn2, Int.sub_zero, hpf, hpl, mark, ctSeeded, ctAt, ctSec, ctU32, ctSaid, ctGoes, reduceIte, seval, -BitVec.isValue, -BitVec.reduceOfNat, -List.reduceReplicate]
        refine ⟨j + 1, by omega, Wk_p [(3, 4)] ?_, by omega⟩
        have hu1 : sigH o hd seed ++ ends (j + 1) (sgF (hO o) hd seed ds) = u ++ sgF (hO o) hd seed ds j := by rw [ends_succ, ← List.append_assoc, ← hu]
        simp only [go_sem, σsi, lfC, hu1, reduceIte, seval, -BitVec.isValue, -BitVec.reduceOfNat, -List.reduceReplicate]
        simp [hall, hpl, hdl, ends_succ, hjl]
        try omega
      · have hge : j = ds.length := by omega
        have hc' : ¬ (j : Int) < ds.length := by omega
        have hfin : u = sigO o hd seed msg := by
          rw [hu, sigO, lsgS, ← hds, hge]; rfl
        simp (maxSteps := 10000000) (disch := omega) only [go_sem, σsi, ← hu, lfC, hc', hall, mark, ctSeeded, ctAt, ctSec, ctU32, ctSaid, ctGoes, reduceIte, seval, -BitVec.isValue, -BitVec.reduceOfNat, -List.reduceReplicate]
        rw [← hfin, ← hall]
        simp
  · rw [SignR, if_neg h0]
    refine AW_run hct 1000 ?_
    simp (maxSteps := 10000000) (disch := omega) only [go_sem, c43, mark, ctSeeded, ctAt, ctSec, ctU32, ctSaid, ctGoes, h0, nilE, reduceIte, seval, -BitVec.isValue, -BitVec.reduceOfNat, -List.reduceReplicate]
def ctLSign : Nat × (List AV → R) := (43, A5 fun (o : Ots) (id : Ar (BitVec 8)) (q : BitVec 32) (seed msg : By) => (id.l.length = 16 ∧ msg.length ≤ 140737488351232, SignR o id.l q seed msg))
theorem ctLSign_ok {Ct : List (Nat × (List AV → R))} (h : CtOK Tryd.prog Gs Ct) : CtOK Tryd.prog Gs (ctLSign :: Ct) := CtOK_cons (Row5 fun o id q seed m h => Sign_fun o id.l q seed m h.1 h.2) h
end Go.Lv
