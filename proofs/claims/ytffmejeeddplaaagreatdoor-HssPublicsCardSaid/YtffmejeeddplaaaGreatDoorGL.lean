/- A part of the proof (GL). -/
import Derived.Test.YtffmejeeddplaaaGreatDoorGZ
import Derived.Test.YtffmejeeddplaaaGreatDoorGT
import Derived.Test.YtffmejeeddplaaaGreatDoorGK
import Derived.Test.YtffmejeeddplaaaGreatDoorFE
import Derived.Test.YtffmejeeddplaaaGreatDoorGY
import Derived.Test.YtffmejeeddplaaaGreatDoorGU
import Derived.Test.YtffmejeeddplaaaGreatDoorGS
set_option linter.all false
namespace Go.Lv
open Go Go.Proofs
set_option linter.unusedSimpArgs false
set_option maxRecDepth 100000
theorem seeded_fun (o : Ots) (b : List (BitVec 8)) : Fun Tryz.prog Gs 211 [Enc.enc o, Enc.enc b] (.i (rMay o b)) := by
  refine Fun_cc [ctMay] mo Tryz.func211 (by decide) cc211 rs211 Tryz.ntmps211 (by simp) ?_
  have hct := ctMay_ok CtOK_nil
  by_cases h : otsT o.code = some o
  · by_cases h2 : (b.length : Int) = o.n
    · refine AW_run hct 1000 ?_
      simp (maxSteps := 10000000) (disch := omega) only [go_sem, c211, ctMay, otsMay, h, h2, reduceIte, seval, -BitVec.isValue, -BitVec.reduceOfNat, -List.reduceReplicate]
      simp [rMay, h, h2]
    · refine AW_run hct 1000 ?_
      simp (maxSteps := 10000000) (disch := omega) only [go_sem, c211, ctMay, otsMay, h, h2, reduceIte, seval, -BitVec.isValue, -BitVec.reduceOfNat, -List.reduceReplicate]
      simp [rMay, h, h2]
  · refine AW_run hct 1000 ?_
    simp (maxSteps := 10000000) (disch := omega) only [go_sem, c211, ctMay, otsMay, h, reduceIte, seval, -BitVec.isValue, -BitVec.reduceOfNat, -List.reduceReplicate]
    simp [rMay, h]
def ctSeeded : Nat × (List AV → R) := (211, A2 fun (o : Ots) (b : List (BitVec 8)) => (True, .i (rMay o b)))
theorem ctSeeded_ok {Ct : List (Nat × (List AV → R))} (h : CtOK Tryz.prog Gs Ct) : CtOK Tryz.prog Gs (ctSeeded :: Ct) := CtOK_cons (Row2 fun o b _ => seeded_fun o b) h
theorem top_le {o : Ots} (ho : OtsOK o) : 0 ≤ (2 : Int) ^ o.w.toNat - 1 ∧ (2 : Int) ^ o.w.toNat - 1 ≤ 255 := w_pow ho.w
def topN (o : Ots) : Nat := 2 ^ o.w.toNat - 1
theorem topN_eq {o : Ots} (ho : OtsOK o) : ((topN o : Nat) : Int) = 2 ^ o.w.toNat - 1 := by
  have h2 := Nat.pow_pos (n := o.w.toNat) (show 0 < 2 by omega)
  have h3 : (2 : Int) ^ o.w.toNat = ((2 ^ o.w.toNat : Nat) : Int) := by simp
  rw [topN, h3]; omega
theorem topN_le {o : Ots} (ho : OtsOK o) : topN o ≤ 255 := by have := topN_eq ho; have := top_le ho; omega
theorem leOK_of {o : Ots} (h : otsT o.code = some o) {id : List (BitVec 8)} (hid : id.length = 16) (q : BitVec 32) : leOK ⟨o, hdS id q⟩ := ⟨h, by simp [hdS, hid, bigL_len]⟩
def nilE (e : Int) : AV := .tup [.ros true 0 [], .i e]
end Go.Lv
namespace Go.Lv
open Go Go.Proofs
set_option linter.unusedSimpArgs false
set_option maxRecDepth 100000
theorem rMay_0 {o : Ots} {b : By} (h : rMay o b = 0) : otsT o.code = some o ∧ (b.length : Int) = o.n := by
  unfold rMay at h
  split at h
  · rename_i h1
    split at h
    · rename_i h2; exact ⟨h1, h2⟩
    · omega
  · omega
theorem secS_len {o : Ots} (ho : OtsOK o) (hd seed : By) (i : Nat) : ((secS (hO o) hd seed i).length : Int) = o.n := hO_len ho _
def pubF (o : Ots) (hd seed : By) (i : Nat) : By := chn (hO o) (preS hd i) 0 (topN o) (secS (hO o) hd seed i)
theorem pubF_len {o : Ots} (ho : OtsOK o) (hd seed : By) (i : Nat) : (pubF o hd seed i).length = o.n.toNat := by
  have hn := ho.n
  exact chn_len (hO o) (fun t => by have := hO_len ho t; omega) _ _ _ _ (by have := secS_len ho hd seed i; omega)
def lpubO (o : Ots) (id : By) (q : BitVec 32) (seed : By) : By := lpubS (hO o) (hdS id q) (topN o) o.p.toNat seed
def PubR (o : Ots) (id : By) (q : BitVec 32) (seed : By) : AV :=
  if rMay o seed = 0 then .tup [Enc.ret (lpubO o id q seed), .i 0] else nilE (rMay o seed)
def otsC (o : Ots) : List AV := [.u32 o.code, .b o.shake, .i o.n, .i o.w, .i o.p, .i o.ls]
def lfC (o : Ots) (hd : By) : List AV := [.u32 o.code, .b o.shake, .i o.n, .i o.w, .i o.p, .i o.ls, Enc.ret hd]
def σpu (o : Ots) (hd seed : By) (j : Nat) : St :=
  ⟨[(3, Enc.enc seed), (4, .ptr 0 0), (11, .ptr 2 0), (12, .sl 3 0 (ends j (pubF o hd seed)).length 1), (25, .i o.p), (26, .i j)],
   [(0, ⟨otsC o, true⟩), (2, ⟨lfC o hd, true⟩), (3, ⟨(ends j (pubF o hd seed)).map .u8, true⟩)], 4⟩
set_option maxHeartbeats 4000000 in
theorem Public_fun (o : Ots) (id : By) (q : BitVec 32) (seed : By) (hid : id.length = 16) : Fun Tryz.prog Gs 269 [Enc.enc o, Enc.enc (⟨id⟩ : Ar (BitVec 8)), Enc.enc q, Enc.enc seed] (PubR o id q seed) := by
  refine Fun_cc [ctSeeded, ctAt, ctSec, ctTop, ctGoes, ctShut] mo Tryz.func269 (by decide) cc269 rs269 Tryz.ntmps269 (by simp) ?_
  have hct := ctSeeded_ok (ctAt_ok (ctSec_ok (ctTop_ok (ctGoes_ok (ctShut_ok CtOK_nil)))))
  have hit : id.take 16 = id := List.take_of_length_le (by omega)
  by_cases h0 : rMay o seed = 0
  · obtain ⟨h, hs⟩ := rMay_0 h0
    have ho := otsT_ok h
    have hp := ho.p
    have hn := ho.n
    have hw := ho.w
    have hw1 : 0 ≤ o.w ∧ o.w ≤ 61 := by rcases hw with h | h | h | h <;> omega
    have htn := topN_eq ho
    have htl := topN_le ho
    have hle := leOK_of h hid q
    have hdl : (hdS id q).length = 20 := by simp [hdS, hid, bigL_len]
    obtain ⟨hd, hhd⟩ : ∃ hd, hd = hdS id q := ⟨_, rfl⟩
    rw [← hhd] at hle hdl
    have hll : ∀ j, (ends j (pubF o hd seed)).length = j * o.n.toNat := ends_len _ (pubF_len ho hd seed)
    have hR : PubR o id q seed = .tup [Enc.ret (shutS (hO o) hd (ends o.p.toNat (pubF o hd seed))), .i 0] := by rw [PubR, if_pos h0, lpubO, ← hhd]; rfl
    rw [hR]
    refine AW_run hct 1000 ?_
    simp (maxSteps := 10000000) (disch := omega) only [go_sem, c269, ctSeeded, ctAt, ctSec, ctTop, ctGoes, ctShut, h0, hid, hit, ← hhd, hdl, reduceIte, seval, -BitVec.isValue, -BitVec.reduceOfNat, -List.reduceReplicate]
    refine AW_null 12 1 (by simp only [go_sem, reduceIte, seval, -BitVec.isValue, -BitVec.reduceOfNat, -List.reduceReplicate]) ?_
    refine AW_loop (σpu o hd seed) (fun j => (j : Int) ≤ o.p) (fun j => o.p.toNat - j) 0 (by simp; omega) (Wk_p [] ?_) fun j hj => ?_
    · simp only [go_sem, σpu, ends_zero, otsC, lfC, reduceIte, seval, -BitVec.isValue, -BitVec.reduceOfNat, -List.reduceReplicate]
      try simp [hdl]
    · refine AW_ct [ctSeeded, ctAt, ctSec, ctTop, ctGoes, ctShut] (AW_run hct 1000 ?_)
      have hjl := hll j
      by_cases hc : (j : Int) < o.p
      · have hsl := secS_len ho hd seed j
        have hmul : j * o.n.toNat ≤ 265 * 32 := Nat.mul_le_mul (by omega) (by omega)
        have htt : ((2 : Int) ^ o.w.toNat - 1) = ((topN o : Nat) : Int) := htn.symm
        have hpf : chn (hO o) (preS hd j) 0 (topN o) (secS (hO o) hd seed j) = pubF o hd seed j := rfl
        have hpl := pubF_len ho hd seed j
        have hsn : (secS (hO o) hd seed j).length ≤ 1000000 := by omega
        simp (maxSteps := 10000000) (disch := omega) only [go_sem, σpu, otsC, lfC, hc, hjl, hw1, htt, hle, hsn, Int.sub_zero, hpf, hpl, ctSeeded, ctAt, ctSec, ctTop, ctGoes, ctShut, reduceIte, seval, -BitVec.isValue, -BitVec.reduceOfNat, -List.reduceReplicate]
        refine ⟨j + 1, by omega, Wk_p [(3, 4)] ?_, by omega⟩
        simp only [go_sem, σpu, otsC, lfC, reduceIte, seval, -BitVec.isValue, -BitVec.reduceOfNat, -List.reduceReplicate]
        simp [ends_succ, hjl, hpl, hdl]
      · have hge : j = o.p.toNat := by omega
        have hmul : j * o.n.toNat ≤ 265 * 32 := Nat.mul_le_mul (by omega) (by omega)
        have hej : (ends j (pubF o hd seed)).take (j * o.n.toNat) = ends j (pubF o hd seed) := List.take_of_length_le (by omega)
        have hjb : (ends j (pubF o hd seed)).length ≤ 140737488351232 := by omega
        rw [← hge]
        simp (maxSteps := 10000000) (disch := omega) only [go_sem, σpu, otsC, lfC, hc, hjl, hej, hle, hjb, ctSeeded, ctAt, ctSec, ctTop, ctGoes, ctShut, reduceIte, seval, -BitVec.isValue, -BitVec.reduceOfNat, -List.reduceReplicate]
        try simp [hdl]
  · rw [PubR, if_neg h0]
    refine AW_run hct 1000 ?_
    simp (maxSteps := 10000000) (disch := omega) only [go_sem, c269, ctSeeded, ctAt, ctSec, ctTop, ctGoes, ctShut, h0, nilE, reduceIte, seval, -BitVec.isValue, -BitVec.reduceOfNat, -List.reduceReplicate]
def ctLPublic : Nat × (List AV → R) := (269, A4 fun (o : Ots) (id : Ar (BitVec 8)) (q : BitVec 32) (seed : By) => (id.l.length = 16, PubR o id.l q seed))
theorem ctLPublic_ok {Ct : List (Nat × (List AV → R))} (h : CtOK Tryz.prog Gs Ct) : CtOK Tryz.prog Gs (ctLPublic :: Ct) := CtOK_cons (Row4 fun o id q seed h => Public_fun o id.l q seed h) h
end Go.Lv
namespace Go.Lv
open Go Go.Proofs
set_option linter.unusedSimpArgs false
set_option maxRecDepth 100000
theorem head_fun (id : By) (q : BitVec 32) (hid : id.length = 16) : Fun Tryz.prog Gs 215 [Enc.enc (⟨id⟩ : Ar (BitVec 8)), Enc.enc q] (Enc.ret (hdS id q)) := by
  refine Fun_cc [] mo Tryz.func215 (by decide) cc215 rs215 Tryz.ntmps215 (by simp) ?_
  have hct := mark_ok 9 (ctRBig_ok (ctJoin_ok CtOK_nil))
  refine AW_run CtOK_nil 1 ?_
  simp (maxSteps := 10000000) (disch := omega) only [go_sem, c215, hid, reduceIte, seval, -BitVec.isValue, -BitVec.reduceOfNat, -List.reduceReplicate]
  refine AW_freeze 0 [2] (seg := ⟨id.map .u8, true⟩) (by simp only [go_sem, reduceIte, seval, -BitVec.isValue, -BitVec.reduceOfNat, -List.reduceReplicate]) rfl (AW_ct [mark 9, ctRBig, ctJoin] (AW_run hct 1000 ?_))
  have hf : [id, bigL (q.setWidth 64) 4].flatten = hdS id q := by simp [hdS]
  have hbl := bigL_len (q.setWidth 64) 4
  have hdl : (hdS id q).length = 20 := by simp [hdS, hid, hbl]
  have hit : id.take 16 = id := List.take_of_length_le (by omega)
  simp (maxSteps := 10000000) (disch := omega) only [go_sem, frzF, hid, mark, ctRBig, ctJoin, hf, hbl, hit, hdl, deL_cons, deL_nil, reduceIte, seval, -BitVec.isValue, -BitVec.reduceOfNat, -List.reduceReplicate]
  try simp
def ctHead : Nat × (List AV → R) := (215, A2 fun (id : Ar (BitVec 8)) (q : BitVec 32) => (id.l.length = 16, Enc.ret (hdS id.l q)))
theorem ctHead_ok {Ct : List (Nat × (List AV → R))} (h : CtOK Tryz.prog Gs Ct) : CtOK Tryz.prog Gs (ctHead :: Ct) := CtOK_cons (Row2 fun id q h => head_fun id.l q h) h
theorem hd_len {id : By} {q : BitVec 32} (hid : id.length = 16) : (hdS id q).length = 20 := by simp [hdS, hid, bigL_len]
theorem oi64 (i : Nat) : BitVec.ofInt 64 (i : Int) = BitVec.ofNat 64 i := BitVec.ofInt_natCast 64 i
set_option maxHeartbeats 1000000 in
theorem rSecret_fun (o : Ots) (id : By) (q : BitVec 32) (seed : By) (i : Nat) (ho : OtsOK o) (hid : id.length = 16) (hs : seed.length ≤ 100000000) :
    Fun Tryz.prog Gs 163 [Enc.enc o, Enc.enc (⟨id⟩ : Ar (BitVec 8)), Enc.enc q, Enc.enc seed, Enc.enc (i : Int)] (Enc.ret (secS (hO o) (hdS id q) seed i)) := by
  refine Fun_cc [mark 21, mark 23, ctHead, ctRBig, ctJoin, ctRSum] mo Tryz.func163 (by decide) cc163 rs163 Tryz.ntmps163 (by simp) ?_
  have hct := mark_ok 21 (mark_ok 23 (ctHead_ok (ctRBig_ok (ctJoin_ok (ctRSum_ok CtOK_nil)))))
  have hit : id.take 16 = id := List.take_of_length_le (by omega)
  have hn := ho.n
  have hdl := hd_len (q := q) hid
  have hbl := bigL_len (BitVec.ofNat 64 i) 2
  have hoi := oi64 i
  have hfl : [hdS id q, bigL (BitVec.ofNat 64 i) 2, [255], seed].flatten = preS (hdS id q) i ++ [255#8] ++ seed := by simp [preS]
  have hpl := preS_len (hdS id q) i
  have hsec : secS (hO o) (hdS id q) seed i = hsumS o.shake o.n.toNat (preS (hdS id q) i ++ [255#8] ++ seed) := rfl
  refine AW_run hct 1000 ?_
  simp (maxSteps := 10000000) (disch := omega) only [go_sem, c163, mark, ctHead, ctRBig, ctJoin, ctRSum, hid, hit, hdl, hbl, hoi, hfl, hpl, hsec, deL_cons, deL_nil, reduceIte, seval, -BitVec.isValue, -BitVec.reduceOfNat, -List.reduceReplicate]
def ctRSecret : Nat × (List AV → R) := (163, A5 fun (o : Ots) (id : Ar (BitVec 8)) (q : BitVec 32) (seed : By) (i : Int) => (OtsOK o ∧ id.l.length = 16 ∧ seed.length ≤ 100000000 ∧ 0 ≤ i, Enc.ret (secS (hO o) (hdS id.l q) seed i.toNat)))
theorem ctRSecret_ok {Ct : List (Nat × (List AV → R))} (h : CtOK Tryz.prog Gs Ct) : CtOK Tryz.prog Gs (ctRSecret :: Ct) := CtOK_cons (Row5 fun o id q seed i h => by
  obtain ⟨h1, h2, h3, h4⟩ := h
  obtain ⟨i, rfl⟩ := Int.eq_ofNat_of_zero_le h4
  exact rSecret_fun o id.l q seed i h1 h2 h3) h
set_option maxHeartbeats 1000000 in
theorem rshut_fun (o : Ots) (id : By) (q : BitVec 32) (e : By) (ho : OtsOK o) (hid : id.length = 16) (hs : e.length ≤ 100000000) :
    Fun Tryz.prog Gs 207 [Enc.enc o, Enc.enc (⟨id⟩ : Ar (BitVec 8)), Enc.enc q, Enc.enc e] (Enc.ret (shutS (hO o) (hdS id q) e)) := by
  refine Fun_cc [mark 18, ctHead, ctRBig, ctJoin, ctRSum] mo Tryz.func207 (by decide) cc207 rs207 Tryz.ntmps207 (by simp) ?_
  have hct := mark_ok 18 (ctHead_ok (ctRBig_ok (ctJoin_ok (ctRSum_ok CtOK_nil))))
  have hit : id.take 16 = id := List.take_of_length_le (by omega)
  have hn := ho.n
  have hdl := hd_len (q := q) hid
  have hbl := bigL_len (32896 : BitVec 64) 2
  have hbl2 := bigL_len (0x8080#64) 2
  have hfl : [hdS id q, bigL (32896 : BitVec 64) 2, e].flatten = hdS id q ++ bigL 0x8080#64 2 ++ e := by simp
  have hsh : shutS (hO o) (hdS id q) e = hsumS o.shake o.n.toNat (hdS id q ++ bigL 0x8080#64 2 ++ e) := rfl
  refine AW_run hct 1000 ?_
  simp (maxSteps := 10000000) (disch := omega) only [go_sem, c207, mark, ctHead, ctRBig, ctJoin, ctRSum, hid, hit, hdl, hbl, hbl2, hfl, hsh, deL_cons, deL_nil, reduceIte, seval, -BitVec.isValue, -BitVec.reduceOfNat, -List.reduceReplicate]
def ctRShut : Nat × (List AV → R) := (207, A4 fun (o : Ots) (id : Ar (BitVec 8)) (q : BitVec 32) (e : By) => (OtsOK o ∧ id.l.length = 16 ∧ e.length ≤ 100000000, Enc.ret (shutS (hO o) (hdS id.l q) e)))
theorem ctRShut_ok {Ct : List (Nat × (List AV → R))} (h : CtOK Tryz.prog Gs Ct) : CtOK Tryz.prog Gs (ctRShut :: Ct) := CtOK_cons (Row4 fun o id q e h => rshut_fun o id.l q e h.1 h.2.1 h.2.2) h
def σrch (o : Ots) (id : By) (q : BitVec 32) (i f t : Nat) (x : By) (j : Nat) : St :=
  ⟨[(2, .u32 q), (3, .i i), (5, .i t), (6, roB (j != 0) (chn (hO o) (preS (hdS id q) i) f j x)), (7, .ptr 0 0), (8, .ptr 1 0), (15, .i ((f + j : Nat) : Int))], [(0, ⟨otsC o, true⟩), (1, ⟨id.map .u8, true⟩)], 2⟩
set_option maxHeartbeats 2000000 in
theorem rChain_fun (o : Ots) (id : By) (q : BitVec 32) (i f k : Nat) (x : By) (ho : OtsOK o) (hid : id.length = 16) (hx : x.length ≤ 1000000) (hf : f + k ≤ 255) :
    Fun Tryz.prog Gs 205 [Enc.enc o, Enc.enc (⟨id⟩ : Ar (BitVec 8)), Enc.enc q, Enc.enc (i : Int), Enc.enc (f : Int), Enc.enc ((f + k : Nat) : Int), Enc.enc x] (roB (k != 0) (chn (hO o) (preS (hdS id q) i) f k x)) := by
  refine Fun_cc [mark 34, mark 36, ctHead, ctRBig, ctJoin, ctRSum] mo Tryz.func205 (by decide) cc205 rs205 Tryz.ntmps205 (by simp) ?_
  have hct := mark_ok 34 (mark_ok 36 (ctHead_ok (ctRBig_ok (ctJoin_ok (ctRSum_ok CtOK_nil)))))
  have hit : id.take 16 = id := List.take_of_length_le (by omega)
  have hn := ho.n
  have hdl := hd_len (q := q) hid
  have hpl := preS_len (hdS id q) i
  have hbl := bigL_len (BitVec.ofNat 64 i) 2
  have hoi := oi64 i
  refine AW_run hct 1000 ?_
  simp (maxSteps := 10000000) (disch := omega) only [go_sem, c205, mark, ctHead, ctRBig, ctJoin, ctRSum, reduceIte, seval, -BitVec.isValue, -BitVec.reduceOfNat, -List.reduceReplicate]
  refine AW_loop (σrch o id q i f (f + k) x) (fun j => j ≤ k) (fun j => k - j) 0 (Nat.zero_le _) (Wk_p [] ?_) fun j hj => ?_
  · simp only [go_sem, σrch, chn, bne_self_eq_false, otsC, reduceIte, seval, -BitVec.isValue, -BitVec.reduceOfNat, -List.reduceReplicate]
    try simp
  · refine AW_ct [mark 34, mark 36, ctHead, ctRBig, ctJoin, ctRSum] (AW_run hct 1000 ?_)
    have hcl : (chn (hO o) (preS (hdS id q) i) f j x).length ≤ 1000000 := by
      cases j with
      | zero => exact hx
      | succ j => rw [chn_succ]; have := hO_len ho (preS (hdS id q) i ++ [BitVec.ofNat 8 (f + j)] ++ chn (hO o) (preS (hdS id q) i) f j x); omega
    have hcs := chn_succ (hO o) (preS (hdS id q) i) f j x
    obtain ⟨y, hy⟩ : ∃ y, y = chn (hO o) (preS (hdS id q) i) f j x := ⟨_, rfl⟩
    rw [← hy] at hcl hcs
    have hcs' : hsumS o.shake o.n.toNat (preS (hdS id q) i ++ [BitVec.ofNat 8 (f + j)] ++ y) = chn (hO o) (preS (hdS id q) i) f (j + 1) x := hcs.symm
    by_cases hd' : j < k
    · have hlt : ((f + j : Nat) : Int) < ((f + k : Nat) : Int) := by omega
      have h8 : BitVec.ofInt 8 ((f + j : Nat) : Int) = BitVec.ofNat 8 (f + j) := BitVec.ofInt_natCast 8 (f + j)
      have hfl : [hdS id q, bigL (BitVec.ofNat 64 i) 2, [BitVec.ofNat 8 (f + j)], y].flatten = preS (hdS id q) i ++ [BitVec.ofNat 8 (f + j)] ++ y := by simp [preS]
      simp (maxSteps := 10000000) (disch := omega) only [go_sem, σrch, ← hy, otsC, hlt, h8, hid, hit, hdl, hbl, hoi, hfl, hpl, hcs', mark, ctHead, ctRBig, ctJoin, ctRSum, deL_cons, deL_nil, reduceIte, seval, -BitVec.isValue, -BitVec.reduceOfNat, -List.reduceReplicate]
      refine ⟨j + 1, by omega, Wk_p [] ?_, by omega⟩
      have e1 : ((f + j : Nat) : Int) + 1 = ((f + (j + 1) : Nat) : Int) := by omega
      have e2 : (j + 1 != 0) = true := by simp
      simp only [go_sem, σrch, otsC, e1, e2, reduceIte, seval, -BitVec.isValue, -BitVec.reduceOfNat, -List.reduceReplicate]
      try simp
    · have hge : j = k := by omega
      subst hge
      have hlt : ¬ ((f + j : Nat) : Int) < ((f + j : Nat) : Int) := by omega
      simp (maxSteps := 10000000) (disch := omega) only [go_sem, σrch, ← hy, otsC, hlt, mark, ctHead, ctRBig, ctJoin, ctRSum, reduceIte, seval, -BitVec.isValue, -BitVec.reduceOfNat, -List.reduceReplicate]
      try simp
def ctRChain : Nat × (List AV → R) := (205, A7 fun (o : Ots) (id : Ar (BitVec 8)) (q : BitVec 32) (i f t : Int) (x : By) => (OtsOK o ∧ id.l.length = 16 ∧ 0 ≤ i ∧ x.length ≤ 1000000 ∧ 0 ≤ f ∧ f ≤ t ∧ t ≤ 255, roB ((t - f).toNat != 0) (chn (hO o) (preS (hdS id.l q) i.toNat) f.toNat (t - f).toNat x)))
theorem ctRChain_ok {Ct : List (Nat × (List AV → R))} (h : CtOK Tryz.prog Gs Ct) : CtOK Tryz.prog Gs (ctRChain :: Ct) := CtOK_cons (Row7 fun o id q i f t x h => by
  obtain ⟨h1, h0, h2, h4, h5, h6, h7⟩ := h
  obtain ⟨i, rfl⟩ := Int.eq_ofNat_of_zero_le h2
  obtain ⟨f, rfl⟩ := Int.eq_ofNat_of_zero_le h5
  obtain ⟨k, hk⟩ := Int.eq_ofNat_of_zero_le (show 0 ≤ t - f by omega)
  have ht : t = ((f + k : Nat) : Int) := by omega
  have := rChain_fun o id.l q i f k x h1 h0 h4 (by omega)
  rw [ht, show (((f + k : Nat) : Int) - (f : Int)).toNat = k by omega]
  exact this) h
def σrpu (o : Ots) (id : By) (q : BitVec 32) (seed : By) (j : Nat) : St :=
  ⟨[(2, .u32 q), (3, Enc.enc seed), (4, .ptr 0 0), (5, .ptr 1 0), (9, .sl 2 0 (ends j (pubF o (hdS id q) seed)).length 1), (13, .i o.p), (14, .i j)],
   [(0, ⟨otsC o, true⟩), (1, ⟨id.map .u8, true⟩), (2, ⟨(ends j (pubF o (hdS id q) seed)).map .u8, true⟩)], 3⟩
set_option maxHeartbeats 4000000 in
theorem rPublic_fun (o : Ots) (id : By) (q : BitVec 32) (seed : By) (ho : OtsOK o) (hid : id.length = 16) (hs : (seed.length : Int) = o.n) :
    Fun Tryz.prog Gs 262 [Enc.enc o, Enc.enc (⟨id⟩ : Ar (BitVec 8)), Enc.enc q, Enc.enc seed] (Enc.ret (lpubO o id q seed)) := by
  refine Fun_cc [ctMost, ctRSecret, ctRChain, ctRShut] mo Tryz.func262 (by decide) cc262 rs262 Tryz.ntmps262 (by simp) ?_
  have hct := ctMost_ok (ctRSecret_ok (ctRChain_ok (ctRShut_ok CtOK_nil)))
  have hit : id.take 16 = id := List.take_of_length_le (by omega)
  have hp := ho.p
  have hn := ho.n
  have hw := ho.w
  have hw1 : 0 ≤ o.w ∧ o.w ≤ 61 := by rcases hw with h | h | h | h <;> omega
  have htn := topN_eq ho
  have htl := topN_le ho
  have hll : ∀ j, (ends j (pubF o (hdS id q) seed)).length = j * o.n.toNat := ends_len _ (pubF_len ho (hdS id q) seed)
  have hR : lpubO o id q seed = shutS (hO o) (hdS id q) (ends o.p.toNat (pubF o (hdS id q) seed)) := rfl
  rw [hR]
  refine AW_run hct 1000 ?_
  simp (maxSteps := 10000000) (disch := omega) only [go_sem, c262, ctMost, ctRSecret, ctRChain, ctRShut, reduceIte, seval, -BitVec.isValue, -BitVec.reduceOfNat, -List.reduceReplicate]
  refine AW_loop (σrpu o id q seed) (fun j => (j : Int) ≤ o.p) (fun j => o.p.toNat - j) 0 (by simp; omega) (Wk_p [] ?_) fun j hj => ?_
  · simp only [go_sem, σrpu, ends_zero, otsC, reduceIte, seval, -BitVec.isValue, -BitVec.reduceOfNat, -List.reduceReplicate]
    try simp
  · refine AW_ct [ctMost, ctRSecret, ctRChain, ctRShut] (AW_run hct 1000 ?_)
    have hjl := hll j
    by_cases hc : (j : Int) < o.p
    · have hsl := secS_len ho (hdS id q) seed j
      have hmul : j * o.n.toNat ≤ 265 * 32 := Nat.mul_le_mul (by omega) (by omega)
      have htt : ((2 : Int) ^ o.w.toNat - 1) = ((topN o : Nat) : Int) := htn.symm
      have hpf : chn (hO o) (preS (hdS id q) j) 0 (topN o) (secS (hO o) (hdS id q) seed j) = pubF o (hdS id q) seed j := rfl
      have hpl := pubF_len ho (hdS id q) seed j
      have hsn : (secS (hO o) (hdS id q) seed j).length ≤ 1000000 := by omega
      simp (maxSteps := 10000000) (disch := omega) only [go_sem, σrpu, otsC, hc, hjl, hw1, htt, ho, hid, hit, hsn, Int.sub_zero, hpf, hpl, ctMost, ctRSecret, ctRChain, ctRShut, reduceIte, seval, -BitVec.isValue, -BitVec.reduceOfNat, -List.reduceReplicate]
      refine ⟨j + 1, by omega, Wk_p [(2, 3)] ?_, by omega⟩
      simp only [go_sem, σrpu, otsC, reduceIte, seval, -BitVec.isValue, -BitVec.reduceOfNat, -List.reduceReplicate]
      simp [ends_succ, hjl, hpl]
    · have hge : j = o.p.toNat := by omega
      have hmul : j * o.n.toNat ≤ 265 * 32 := Nat.mul_le_mul (by omega) (by omega)
      have hej : (ends j (pubF o (hdS id q) seed)).take (j * o.n.toNat) = ends j (pubF o (hdS id q) seed) := List.take_of_length_le (by omega)
      have hjb : (ends j (pubF o (hdS id q) seed)).length ≤ 100000000 := by omega
      rw [← hge]
      simp (maxSteps := 10000000) (disch := omega) only [go_sem, σrpu, otsC, hc, hjl, hej, ho, hid, hit, hjb, ctMost, ctRSecret, ctRChain, ctRShut, reduceIte, seval, -BitVec.isValue, -BitVec.reduceOfNat, -List.reduceReplicate]
      try simp
def ctRPublic : Nat × (List AV → R) := (262, A4 fun (o : Ots) (id : Ar (BitVec 8)) (q : BitVec 32) (seed : By) => (OtsOK o ∧ id.l.length = 16 ∧ (seed.length : Int) = o.n, Enc.ret (lpubO o id.l q seed)))
theorem ctRPublic_ok {Ct : List (Nat × (List AV → R))} (h : CtOK Tryz.prog Gs Ct) : CtOK Tryz.prog Gs (ctRPublic :: Ct) := CtOK_cons (Row4 fun o id q seed h => rPublic_fun o id.l q seed h.1 h.2.1 h.2.2) h
end Go.Lv
namespace Go.Lv
open Go Go.Proofs
set_option linter.unusedSimpArgs false
set_option maxRecDepth 100000
section
variable {k : Leaf}
end
end Go.Lv
namespace Go.Lv
open Go Go.Proofs
set_option linter.unusedSimpArgs false
set_option maxRecDepth 100000
end Go.Lv
namespace Go.Lv
open Go Go.Proofs
set_option linter.unusedSimpArgs false
set_option maxRecDepth 100000
end Go.Lv
namespace Go.Lv
open Go Go.Proofs
set_option linter.unusedSimpArgs false
set_option maxRecDepth 100000
end Go.Lv
namespace Go.Lv
open Go Go.Proofs
set_option linter.unusedSimpArgs false
set_option maxRecDepth 100000
end Go.Lv
namespace Go.Lv
open Go Go.Proofs
set_option linter.unusedSimpArgs false
set_option maxRecDepth 100000
structure LK where
  l : Lms
  o : Ots
  id : By
  sd : By
def LK.c (k : LK) : List AV := [.u32 k.l.code, .b k.l.shake, .i k.l.n, .i k.l.h, .u32 k.o.code, .b k.o.shake, .i k.o.n, .i k.o.w, .i k.o.p, .i k.o.ls] ++ (k.id.map .u8 ++ [Enc.enc k.sd])
structure LKok (k : LK) : Prop where
  f : fitP k.l k.o
  i : k.id.length = 16
  s : (k.sd.length : Int) = k.l.n
theorem lmsT_sm {l : Lms} (h : lmsT l.code = some l) : lmsSm l := by
  have := lmsX_ok l.code
  rw [lmsX, h] at this
  exact this
theorem LKok.o {k : LK} (h : LKok k) : OtsOK k.o := otsT_ok h.f.2.1
theorem LKok.ot {k : LK} (h : LKok k) : otsT k.o.code = some k.o := h.f.2.1
theorem LKok.lm {k : LK} (h : LKok k) : lmsT k.l.code = some k.l := h.f.1
theorem LKok.n {k : LK} (h : LKok k) : k.l.n = k.o.n := h.f.2.2.2
theorem LKok.sm {k : LK} (h : LKok k) : 0 ≤ k.l.h ∧ k.l.h ≤ 25 ∧ 0 ≤ k.l.n ∧ k.l.n ≤ 32 := lmsT_sm h.lm
def lN (H h j : Nat) : BitVec 32 := BitVec.ofNat 32 (2 ^ (H - h) + j)
def lfS (o : Ots) (id : By) (r : BitVec 32) (pub : By) : By := hO o (hdS id r ++ bigL 0x8282#64 2 ++ pub)
def ndS (o : Ots) (id : By) (r : BitVec 32) (a b : By) : By := hO o (hdS id r ++ bigL 0x8383#64 2 ++ (a ++ b))
theorem lfS_len {o : Ots} (ho : OtsOK o) (id : By) (r : BitVec 32) (pub : By) : (lfS o id r pub).length = o.n.toNat := by have := hO_len ho (hdS id r ++ bigL 0x8282#64 2 ++ pub); rw [lfS]; omega
theorem ndS_len {o : Ots} (ho : OtsOK o) (id : By) (r : BitVec 32) (a b : By) : (ndS o id r a b).length = o.n.toNat := by have := hO_len ho (hdS id r ++ bigL 0x8383#64 2 ++ (a ++ b)); rw [ndS]; omega
def lnode (k : LK) : Nat → Nat → By
  | 0, j => lfS k.o k.id (lN k.l.h.toNat 0 j) (lpubO k.o k.id (BitVec.ofNat 32 j) k.sd)
  | h + 1, j => ndS k.o k.id (lN k.l.h.toNat (h + 1) j) (lnode k h (2 * j)) (lnode k h (2 * j + 1))
theorem lnode_len {k : LK} (hk : LKok k) : ∀ h j, (lnode k h j).length = k.o.n.toNat
  | 0, j => lfS_len hk.o _ _ _
  | h + 1, j => ndS_len hk.o _ _ _ _
def lsk (n c : Nat) : List (Nat × Nat) := ((List.range 5).filter fun h => decide (c ≤ h) && decide (n / 2 ^ h % 2 = 1)).reverse.map fun h => (h, n / 2 ^ h - 1)
theorem lsk_top : ∀ c < 5, ∀ n < 17, n / 2 ^ c % 2 = 1 → lsk n c = lsk n (c + 1) ++ [(c, n / 2 ^ c - 1)] := by decide +kernel
theorem lsk_non : ∀ c < 5, ∀ n < 17, n / 2 ^ c % 2 = 0 → lsk n c = [] ∨ ∃ p L, lsk n c = L ++ [p] ∧ p.1 ≠ c := by
  have : ∀ c < 5, ∀ n < 17, n / 2 ^ c % 2 = 0 → lsk n c = [] ∨ (((lsk n c).getLast?.getD (c, 0)).1 ≠ c ∧ lsk n c ≠ []) := by decide +kernel
  intro c hc n hn h
  rcases this c hc n hn h with h | ⟨h1, h2⟩
  · exact .inl h
  · refine .inr ⟨(lsk n c).getLast h2, (lsk n c).dropLast, (List.dropLast_concat_getLast h2).symm, ?_⟩
    rw [List.getLast?_eq_some_getLast h2] at h1
    exact h1
theorem lsk_put : ∀ c < 5, ∀ n < 16, n % 2 ^ c = 2 ^ c - 1 ∧ n / 2 ^ c % 2 = 0 → lsk n c ++ [(c, n / 2 ^ c)] = lsk (n + 1) 0 := by decide +kernel
theorem lsk_lenc : ∀ c < 6, ∀ n < 17, (lsk n c).length ≤ 5 := by decide +kernel
theorem lsk_all : ∀ h < 5, lsk (2 ^ h) 0 = [(h, 0)] := by decide +kernel
theorem lsk_zero : lsk 0 0 = [] := by decide +kernel
theorem lones_succ : ∀ n < 16, ∀ c < 5, n % 2 ^ c = 2 ^ c - 1 ∧ n / 2 ^ c % 2 = 1 → n % 2 ^ (c + 1) = 2 ^ (c + 1) - 1 ∧ c < 4 ∧ n / 2 ^ (c + 1) = n / 2 ^ c / 2 ∧ 2 * (n / 2 ^ c / 2) = n / 2 ^ c - 1 ∧ 2 * (n / 2 ^ c / 2) + 1 = n / 2 ^ c := by decide +kernel
def lpubS' (k : LK) : By := bigL (k.l.code.setWidth 64) 4 ++ bigL (k.o.code.setWidth 64) 4 ++ k.id ++ lnode k k.l.h.toNat 0
theorem lpubS'_len {k : LK} (hk : LKok k) : (lpubS' k).length = 24 + k.o.n.toNat := by
  have := lnode_len hk k.l.h.toNat 0
  have := hk.i
  simp [lpubS', bigL_len]; omega
end Go.Lv
namespace Go.Lv
open Go Go.Proofs
set_option linter.unusedSimpArgs false
set_option maxRecDepth 100000
end Go.Lv
