/- A part of the proof (GL). -/
import Derived.Test.YtjehnljbhmjgoaaGreatDoorGZ
import Derived.Test.YtjehnljbhmjgoaaGreatDoorGT
import Derived.Test.YtjehnljbhmjgoaaGreatDoorGK
import Derived.Test.YtjehnljbhmjgoaaGreatDoorFE
import Derived.Test.YtjehnljbhmjgoaaGreatDoorGY
import Derived.Test.YtjehnljbhmjgoaaGreatDoorGU
import Derived.Test.YtjehnljbhmjgoaaGreatDoorGS
set_option linter.all false
namespace Go.Lv
open Go Go.Proofs
set_option linter.unusedSimpArgs false
set_option maxRecDepth 100000
theorem seeded_fun (o : Ots) (b : List (BitVec 8)) : Fun Tryz.prog Gs 162 [Enc.enc o, Enc.enc b] (.i (rMay o b)) := by
  refine Fun_cc [ctMay] mo Tryz.func162 (by decide) cc162 rs162 Tryz.ntmps162 (by simp) ?_
  have hct := ctMay_ok CtOK_nil
  by_cases h : otsT o.code = some o
  · by_cases h2 : (b.length : Int) = o.n
    · refine AW_run hct 1000 ?_
      simp (maxSteps := 10000000) (disch := omega) only [go_sem, c162, ctMay, otsMay, h, h2, reduceIte, seval, -BitVec.isValue, -BitVec.reduceOfNat, -List.reduceReplicate]
      simp [rMay, h, h2]
    · refine AW_run hct 1000 ?_
      simp (maxSteps := 10000000) (disch := omega) only [go_sem, c162, ctMay, otsMay, h, h2, reduceIte, seval, -BitVec.isValue, -BitVec.reduceOfNat, -List.reduceReplicate]
      simp [rMay, h, h2]
  · refine AW_run hct 1000 ?_
    simp (maxSteps := 10000000) (disch := omega) only [go_sem, c162, ctMay, otsMay, h, reduceIte, seval, -BitVec.isValue, -BitVec.reduceOfNat, -List.reduceReplicate]
    simp [rMay, h]
def ctSeeded : Nat × (List AV → R) := (162, A2 fun (o : Ots) (b : List (BitVec 8)) => (True, .i (rMay o b)))
theorem ctSeeded_ok {Ct : List (Nat × (List AV → R))} (h : CtOK Tryz.prog Gs Ct) : CtOK Tryz.prog Gs (ctSeeded :: Ct) := CtOK_cons (Row2 fun o b _ => seeded_fun o b) h
theorem top_le {o : Ots} (ho : OtsOK o) : 0 ≤ (2 : Int) ^ o.w.toNat - 1 ∧ (2 : Int) ^ o.w.toNat - 1 ≤ 255 := w_pow ho.w
def topN (o : Ots) : Nat := 2 ^ o.w.toNat - 1
theorem topN_eq {o : Ots} (ho : OtsOK o) : ((topN o : Nat) : Int) = 2 ^ o.w.toNat - 1 := by
  have h2 := Nat.pow_pos (n := o.w.toNat) (show 0 < 2 by omega)
  have h3 : (2 : Int) ^ o.w.toNat = ((2 ^ o.w.toNat : Nat) : Int) := by simp
  rw [topN, h3]; omega
theorem topN_le {o : Ots} (ho : OtsOK o) : topN o ≤ 255 := by have := topN_eq ho; have := top_le ho; omega
theorem leOK_of {o : Ots} (h : otsT o.code = some o) {id : List (BitVec 8)} (hid : id.length = 16) (q : BitVec 32) : leOK ⟨o, hdS id q⟩ := ⟨h, by simp [hdS, hid, bigL_len]⟩
def nilE (e : Int) : AV := .tup [.ros true 0 [], .i e]
end Go.Lv
namespace Go.Lv
open Go Go.Proofs
set_option linter.unusedSimpArgs false
set_option maxRecDepth 100000
theorem rMay_0 {o : Ots} {b : By} (h : rMay o b = 0) : otsT o.code = some o ∧ (b.length : Int) = o.n := by
  unfold rMay at h
  split at h
  · rename_i h1
    split at h
    · rename_i h2; exact ⟨h1, h2⟩
    · omega
  · omega
theorem secS_len {o : Ots} (ho : OtsOK o) (hd seed : By) (i : Nat) : ((secS (hO o) hd seed i).length : Int) = o.n := hO_len ho _
def pubF (o : Ots) (hd seed : By) (i : Nat) : By := chn (hO o) (preS hd i) 0 (topN o) (secS (hO o) hd seed i)
theorem pubF_len {o : Ots} (ho : OtsOK o) (hd seed : By) (i : Nat) : (pubF o hd seed i).length = o.n.toNat := by
  have hn := ho.n
  exact chn_len (hO o) (fun t => by have := hO_len ho t; omega) _ _ _ _ (by have := secS_len ho hd seed i; omega)
def lpubO (o : Ots) (id : By) (q : BitVec 32) (seed : By) : By := lpubS (hO o) (hdS id q) (topN o) o.p.toNat seed
def PubR (o : Ots) (id : By) (q : BitVec 32) (seed : By) : AV :=
  if rMay o seed = 0 then .tup [Enc.ret (lpubO o id q seed), .i 0] else nilE (rMay o seed)
def otsC (o : Ots) : List AV := [.u32 o.code, .b o.shake, .i o.n, .i o.w, .i o.p, .i o.ls]
def lfC (o : Ots) (hd : By) : List AV := [.u32 o.code, .b o.shake, .i o.n, .i o.w, .i o.p, .i o.ls, Enc.ret hd]
def σpu (o : Ots) (hd seed : By) (j : Nat) : St :=
  ⟨[(3, Enc.enc seed), (4, .ptr 0 0), (11, .ptr 2 0), (12, .sl 3 0 (ends j (pubF o hd seed)).length 1), (25, .i o.p), (26, .i j)],
   [(0, ⟨otsC o, true⟩), (2, ⟨lfC o hd, true⟩), (3, ⟨(ends j (pubF o hd seed)).map .u8, true⟩)], 4⟩
set_option maxHeartbeats 4000000 in
theorem Public_fun (o : Ots) (id : By) (q : BitVec 32) (seed : By) (hid : id.length = 16) : Fun Tryz.prog Gs 185 [Enc.enc o, Enc.enc (⟨id⟩ : Ar (BitVec 8)), Enc.enc q, Enc.enc seed] (PubR o id q seed) := by
  refine Fun_cc [ctSeeded, ctAt, ctSec, ctTop, ctGoes, ctShut] mo Tryz.func185 (by decide) cc185 rs185 Tryz.ntmps185 (by simp) ?_
  have hct := ctSeeded_ok (ctAt_ok (ctSec_ok (ctTop_ok (ctGoes_ok (ctShut_ok CtOK_nil)))))
  have hit : id.take 16 = id := List.take_of_length_le (by omega)
  by_cases h0 : rMay o seed = 0
  · obtain ⟨h, hs⟩ := rMay_0 h0
    have ho := otsT_ok h
    have hp := ho.p
    have hn := ho.n
    have hw := ho.w
    have hw1 : 0 ≤ o.w ∧ o.w ≤ 61 := by rcases hw with h | h | h | h <;> omega
    have htn := topN_eq ho
    have htl := topN_le ho
    have hle := leOK_of h hid q
    have hdl : (hdS id q).length = 20 := by simp [hdS, hid, bigL_len]
    obtain ⟨hd, hhd⟩ : ∃ hd, hd = hdS id q := ⟨_, rfl⟩
    rw [← hhd] at hle hdl
    have hll : ∀ j, (ends j (pubF o hd seed)).length = j * o.n.toNat := ends_len _ (pubF_len ho hd seed)
    have hR : PubR o id q seed = .tup [Enc.ret (shutS (hO o) hd (ends o.p.toNat (pubF o hd seed))), .i 0] := by rw [PubR, if_pos h0, lpubO, ← hhd]; rfl
    rw [hR]
    refine AW_run hct 1000 ?_
    simp (maxSteps := 10000000) (disch := omega) only [go_sem, c185, ctSeeded, ctAt, ctSec, ctTop, ctGoes, ctShut, h0, hid, hit, ← hhd, hdl, reduceIte, seval, -BitVec.isValue, -BitVec.reduceOfNat, -List.reduceReplicate]
    refine AW_null 12 1 (by simp only [go_sem, reduceIte, seval, -BitVec.isValue, -BitVec.reduceOfNat, -List.reduceReplicate]) ?_
    refine AW_loop (σpu o hd seed) (fun j => (j : Int) ≤ o.p) (fun j => o.p.toNat - j) 0 (by simp; omega) (Wk_p [] ?_) fun j hj => ?_
    · simp only [go_sem, σpu, ends_zero, otsC, lfC, reduceIte, seval, -BitVec.isValue, -BitVec.reduceOfNat, -List.reduceReplicate]
      try simp [hdl]
    · refine AW_ct [ctSeeded, ctAt, ctSec, ctTop, ctGoes, ctShut] (AW_run hct 1000 ?_)
      have hjl := hll j
      by_cases hc : (j : Int) < o.p
      · have hsl := secS_len ho hd seed j
        have hmul : j * o.n.toNat ≤ 265 * 32 := Nat.mul_le_mul (by omega) (by omega)
        have htt : ((2 : Int) ^ o.w.toNat - 1) = ((topN o : Nat) : Int) := htn.symm
        have hpf : chn (hO o) (preS hd j) 0 (topN o) (secS (hO o) hd seed j) = pubF o hd seed j := rfl
        have hpl := pubF_len ho hd seed j
        have hsn : (secS (hO o) hd seed j).length ≤ 1000000 := by omega
        simp (maxSteps := 10000000) (disch := omega) only [go_sem, σpu, otsC, lfC, hc, hjl, hw1, htt, hle, hsn, Int.sub_zero, hpf, hpl, ctSeeded, ctAt, ctSec, ctTop, ctGoes, ctShut, reduceIte, seval, -BitVec.isValue, -BitVec.reduceOfNat, -List.reduceReplicate]
        refine ⟨j + 1, by omega, Wk_p [(3, 4)] ?_, by omega⟩
        simp only [go_sem, σpu, otsC, lfC, reduceIte, seval, -BitVec.isValue, -BitVec.reduceOfNat, -List.reduceReplicate]
        simp [ends_succ, hjl, hpl, hdl]
      · have hge : j = o.p.toNat := by omega
        have hmul : j * o.n.toNat ≤ 265 * 32 := Nat.mul_le_mul (by omega) (by omega)
        have hej : (ends j (pubF o hd seed)).take (j * o.n.toNat) = ends j (pubF o hd seed) := List.take_of_length_le (by omega)
        have hjb : (ends j (pubF o hd seed)).length ≤ 140737488351232 := by omega
        rw [← hge]
        simp (maxSteps := 10000000) (disch := omega) only [go_sem, σpu, otsC, lfC, hc, hjl, hej, hle, hjb, ctSeeded, ctAt, ctSec, ctTop, ctGoes, ctShut, reduceIte, seval, -BitVec.isValue, -BitVec.reduceOfNat, -List.reduceReplicate]
        try simp [hdl]
  · rw [PubR, if_neg h0]
    refine AW_run hct 1000 ?_
    simp (maxSteps := 10000000) (disch := omega) only [go_sem, c185, ctSeeded, ctAt, ctSec, ctTop, ctGoes, ctShut, h0, nilE, reduceIte, seval, -BitVec.isValue, -BitVec.reduceOfNat, -List.reduceReplicate]
def ctLPublic : Nat × (List AV → R) := (185, A4 fun (o : Ots) (id : Ar (BitVec 8)) (q : BitVec 32) (seed : By) => (id.l.length = 16, PubR o id.l q seed))
theorem ctLPublic_ok {Ct : List (Nat × (List AV → R))} (h : CtOK Tryz.prog Gs Ct) : CtOK Tryz.prog Gs (ctLPublic :: Ct) := CtOK_cons (Row4 fun o id q seed h => Public_fun o id.l q seed h) h
end Go.Lv
namespace Go.Lv
open Go Go.Proofs
set_option linter.unusedSimpArgs false
set_option maxRecDepth 100000
theorem head_fun (id : By) (q : BitVec 32) (hid : id.length = 16) : Fun Tryz.prog Gs 207 [Enc.enc (⟨id⟩ : Ar (BitVec 8)), Enc.enc q] (Enc.ret (hdS id q)) := by
  refine Fun_cc [] mo Tryz.func207 (by decide) cc207 rs207 Tryz.ntmps207 (by simp) ?_
  have hct := mark_ok 9 (ctRBig_ok (ctJoin_ok CtOK_nil))
  refine AW_run CtOK_nil 1 ?_
  simp (maxSteps := 10000000) (disch := omega) only [go_sem, c207, hid, reduceIte, seval, -BitVec.isValue, -BitVec.reduceOfNat, -List.reduceReplicate]
  refine AW_freeze 0 [2] (seg := ⟨id.map .u8, true⟩) (by simp only [go_sem, reduceIte, seval, -BitVec.isValue, -BitVec.reduceOfNat, -List.reduceReplicate]) rfl (AW_ct [mark 9, ctRBig, ctJoin] (AW_run hct 1000 ?_))
  have hf : [id, bigL (q.setWidth 64) 4].flatten = hdS id q := by simp [hdS]
  have hbl := bigL_len (q.setWidth 64) 4
  have hdl : (hdS id q).length = 20 := by simp [hdS, hid, hbl]
  have hit : id.take 16 = id := List.take_of_length_le (by omega)
  simp (maxSteps := 10000000) (disch := omega) only [go_sem, frzF, hid, mark, ctRBig, ctJoin, hf, hbl, hit, hdl, deL_cons, deL_nil, reduceIte, seval, -BitVec.isValue, -BitVec.reduceOfNat, -List.reduceReplicate]
  try simp
def ctHead : Nat × (List AV → R) := (207, A2 fun (id : Ar (BitVec 8)) (q : BitVec 32) => (id.l.length = 16, Enc.ret (hdS id.l q)))
theorem ctHead_ok {Ct : List (Nat × (List AV → R))} (h : CtOK Tryz.prog Gs Ct) : CtOK Tryz.prog Gs (ctHead :: Ct) := CtOK_cons (Row2 fun id q h => head_fun id.l q h) h
theorem hd_len {id : By} {q : BitVec 32} (hid : id.length = 16) : (hdS id q).length = 20 := by simp [hdS, hid, bigL_len]
theorem oi64 (i : Nat) : BitVec.ofInt 64 (i : Int) = BitVec.ofNat 64 i := BitVec.ofInt_natCast 64 i
set_option maxHeartbeats 1000000 in
theorem rSecret_fun (o : Ots) (id : By) (q : BitVec 32) (seed : By) (i : Nat) (ho : OtsOK o) (hid : id.length = 16) (hs : seed.length ≤ 100000000) :
    Fun Tryz.prog Gs 171 [Enc.enc o, Enc.enc (⟨id⟩ : Ar (BitVec 8)), Enc.enc q, Enc.enc seed, Enc.enc (i : Int)] (Enc.ret (secS (hO o) (hdS id q) seed i)) := by
  refine Fun_cc [mark 21, mark 23, ctHead, ctRBig, ctJoin, ctRSum] mo Tryz.func171 (by decide) cc171 rs171 Tryz.ntmps171 (by simp) ?_
  have hct := mark_ok 21 (mark_ok 23 (ctHead_ok (ctRBig_ok (ctJoin_ok (ctRSum_ok CtOK_nil)))))
  have hit : id.take 16 = id := List.take_of_length_le (by omega)
  have hn := ho.n
  have hdl := hd_len (q := q) hid
  have hbl := bigL_len (BitVec.ofNat 64 i) 2
  have hoi := oi64 i
  have hfl : [hdS id q, bigL (BitVec.ofNat 64 i) 2, [255], seed].flatten = preS (hdS id q) i ++ [255#8] ++ seed := by simp [preS]
  have hpl := preS_len (hdS id q) i
  have hsec : secS (hO o) (hdS id q) seed i = hsumS o.shake o.n.toNat (preS (hdS id q) i ++ [255#8] ++ seed) := rfl
  refine AW_run hct 1000 ?_
  simp (maxSteps := 10000000) (disch := omega) only [go_sem, c171, mark, ctHead, ctRBig, ctJoin, ctRSum, hid, hit, hdl, hbl, hoi, hfl, hpl, hsec, deL_cons, deL_nil, reduceIte, seval, -BitVec.isValue, -BitVec.reduceOfNat, -List.reduceReplicate]
def ctRSecret : Nat × (List AV → R) := (171, A5 fun (o : Ots) (id : Ar (BitVec 8)) (q : BitVec 32) (seed : By) (i : Int) => (OtsOK o ∧ id.l.length = 16 ∧ seed.length ≤ 100000000 ∧ 0 ≤ i, Enc.ret (secS (hO o) (hdS id.l q) seed i.toNat)))
theorem ctRSecret_ok {Ct : List (Nat × (List AV → R))} (h : CtOK Tryz.prog Gs Ct) : CtOK Tryz.prog Gs (ctRSecret :: Ct) := CtOK_cons (Row5 fun o id q seed i h => by
  obtain ⟨h1, h2, h3, h4⟩ := h
  obtain ⟨i, rfl⟩ := Int.eq_ofNat_of_zero_le h4
  exact rSecret_fun o id.l q seed i h1 h2 h3) h
set_option maxHeartbeats 1000000 in
theorem rshut_fun (o : Ots) (id : By) (q : BitVec 32) (e : By) (ho : OtsOK o) (hid : id.length = 16) (hs : e.length ≤ 100000000) :
    Fun Tryz.prog Gs 181 [Enc.enc o, Enc.enc (⟨id⟩ : Ar (BitVec 8)), Enc.enc q, Enc.enc e] (Enc.ret (shutS (hO o) (hdS id q) e)) := by
  refine Fun_cc [mark 18, ctHead, ctRBig, ctJoin, ctRSum] mo Tryz.func181 (by decide) cc181 rs181 Tryz.ntmps181 (by simp) ?_
  have hct := mark_ok 18 (ctHead_ok (ctRBig_ok (ctJoin_ok (ctRSum_ok CtOK_nil))))
  have hit : id.take 16 = id := List.take_of_length_le (by omega)
  have hn := ho.n
  have hdl := hd_len (q := q) hid
  have hbl := bigL_len (32896 : BitVec 64) 2
  have hbl2 := bigL_len (0x8080#64) 2
  have hfl : [hdS id q, bigL (32896 : BitVec 64) 2, e].flatten = hdS id q ++ bigL 0x8080#64 2 ++ e := by simp
  have hsh : shutS (hO o) (hdS id q) e = hsumS o.shake o.n.toNat (hdS id q ++ bigL 0x8080#64 2 ++ e) := rfl
  refine AW_run hct 1000 ?_
  simp (maxSteps := 10000000) (disch := omega) only [go_sem, c181, mark, ctHead, ctRBig, ctJoin, ctRSum, hid, hit, hdl, hbl, hbl2, hfl, hsh, deL_cons, deL_nil, reduceIte, seval, -BitVec.isValue, -BitVec.reduceOfNat, -List.reduceReplicate]
def ctRShut : Nat × (List AV → R) := (181, A4 fun (o : Ots) (id : Ar (BitVec 8)) (q : BitVec 32) (e : By) => (OtsOK o ∧ id.l.length = 16 ∧ e.length ≤ 100000000, Enc.ret (shutS (hO o) (hdS id.l q) e)))
theorem ctRShut_ok {Ct : List (Nat × (List AV → R))} (h : CtOK Tryz.prog Gs Ct) : CtOK Tryz.prog Gs (ctRShut :: Ct) := CtOK_cons (Row4 fun o id q e h => rshut_fun o id.l q e h.1 h.2.1 h.2.2) h
def σrch (o : Ots) (id : By) (q : BitVec 32) (i f t : Nat) (x : By) (j : Nat) : St :=
  ⟨[(2, .u32 q), (3, .i i), (5, .i t), (6, roB (j != 0) (chn (hO o) (preS (hdS id q) i) f j x)), (7, .ptr 0 0), (8, .ptr 1 0), (15, .i ((f + j : Nat) : Int))], [(0, ⟨otsC o, true⟩), (1, ⟨id.map .u8, true⟩)], 2⟩
set_option maxHeartbeats 2000000 in
theorem rChain_fun (o : Ots) (id : By) (q : BitVec 32) (i f k : Nat) (x : By) (ho : OtsOK o) (hid : id.length = 16) (hx : x.length ≤ 1000000) (hf : f + k ≤ 255) :
    Fun Tryz.prog Gs 170 [Enc.enc o, Enc.enc (⟨id⟩ : Ar (BitVec 8)), Enc.enc q, Enc.enc (i : Int), Enc.enc (f : Int), Enc.enc ((f + k : Nat) : Int), Enc.enc x] (roB (k != 0) (chn (hO o) (preS (hdS id q) i) f k x)) := by
  refine Fun_cc [mark 34, mark 36, ctHead, ctRBig, ctJoin, ctRSum] mo Tryz.func170 (by decide) cc170 rs170 Tryz.ntmps170 (by simp) ?_
  have hct := mark_ok 34 (mark_ok 36 (ctHead_ok (ctRBig_ok (ctJoin_ok (ctRSum_ok CtOK_nil)))))
  have hit : id.take 16 = id := List.take_of_length_le (by omega)
  have hn := ho.n
  have hdl := hd_len (q := q) hid
  have hpl := preS_len (hdS id q) i
  have hbl := bigL_len (BitVec.ofNat 64 i) 2
  have hoi := oi64 i
  refine AW_run hct 1000 ?_
  simp (maxSteps := 10000000) (disch := omega) only [go_sem, c170, mark, ctHead, ctRBig, ctJoin, ctRSum, reduceIte, seval, -BitVec.isValue, -BitVec.reduceOfNat, -List.reduceReplicate]
  refine AW_loop (σrch o id q i f (f + k) x) (fun j => j ≤ k) (fun j => k - j) 0 (Nat.zero_le _) (Wk_p [] ?_) fun j hj => ?_
  · simp only [go_sem, σrch, chn, bne_self_eq_false, otsC, reduceIte, seval, -BitVec.isValue, -BitVec.reduceOfNat, -List.reduceReplicate]
    try simp
  · refine AW_ct [mark 34, mark 36, ctHead, ctRBig, ctJoin, ctRSum] (AW_run hct 1000 ?_)
    have hcl : (chn (hO o) (preS (hdS id q) i) f j x).length ≤ 1000000 := by
      cases j with
      | zero => exact hx
      | succ j => rw [chn_succ]; have := hO_len ho (preS (hdS id q) i ++ [BitVec.ofNat 8 (f + j)] ++ chn (hO o) (preS (hdS id q) i) f j x); omega
    have hcs := chn_succ (hO o) (preS (hdS id q) i) f j x
    obtain ⟨y, hy⟩ : ∃ y, y = chn (hO o) (preS (hdS id q) i) f j x := ⟨_, rfl⟩
    rw [← hy] at hcl hcs
    have hcs' : hsumS o.shake o.n.toNat (preS (hdS id q) i ++ [BitVec.ofNat 8 (f + j)] ++ y) = chn (hO o) (preS (hdS id q) i) f (j + 1) x := hcs.symm
    by_cases hd' : j < k
    · have hlt : ((f + j : Nat) : Int) < ((f + k : Nat) : Int) := by omega
      have h8 : BitVec.ofInt 8 ((f + j : Nat) : Int) = BitVec.ofNat 8 (f + j) := BitVec.ofInt_natCast 8 (f + j)
      have hfl : [hdS id q, bigL (BitVec.ofNat 64 i) 2, [BitVec.ofNat 8 (f + j)], y].flatten = preS (hdS id q) i ++ [BitVec.ofNat 8 (f + j)] ++ y := by simp [preS]
      simp (maxSteps := 10000000) (disch := omega) only [go_sem, σrch, ← hy, otsC, hlt, h8, hid, hit, hdl, hbl, hoi, hfl, hpl, hcs', mark, ctHead, ctRBig, ctJoin, ctRSum, deL_cons, deL_nil, reduceIte, seval, -BitVec.isValue, -BitVec.reduceOfNat, -List.reduceReplicate]
      refine ⟨j + 1, by omega, Wk_p [] ?_, by omega⟩
      have e1 : ((f + j : Nat) : Int) + 1 = ((f + (j + 1) : Nat) : Int) := by omega
      have e2 : (j + 1 != 0) = true := by simp
      simp only [go_sem, σrch, otsC, e1, e2, reduceIte, seval, -BitVec.isValue, -BitVec.reduceOfNat, -List.reduceReplicate]
      try simp
    · have hge : j = k := by omega
      subst hge
      have hlt : ¬ ((f + j : Nat) : Int) < ((f + j : Nat) : Int) := by omega
      simp (maxSteps := 10000000) (disch := omega) only [go_sem, σrch, ← hy, otsC, hlt, mark, ctHead, ctRBig, ctJoin, ctRSum, reduceIte, seval, -BitVec.isValue, -BitVec.reduceOfNat, -List.reduceReplicate]
      try simp
def ctRChain : Nat × (List AV → R) := (170, A7 fun (o : Ots) (id : Ar (BitVec 8)) (q : BitVec 32) (i f t : Int) (x : By) => (OtsOK o ∧ id.l.length = 16 ∧ 0 ≤ i ∧ x.length ≤ 1000000 ∧ 0 ≤ f ∧ f ≤ t ∧ t ≤ 255, roB ((t - f).toNat != 0) (chn (hO o) (preS (hdS id.l q) i.toNat) f.toNat (t - f).toNat x)))
theorem ctRChain_ok {Ct : List (Nat × (List AV → R))} (h : CtOK Tryz.prog Gs Ct) : CtOK Tryz.prog Gs (ctRChain :: Ct) := CtOK_cons (Row7 fun o id q i f t x h => by
  obtain ⟨h1, h0, h2, h4, h5, h6, h7⟩ := h
  obtain ⟨i, rfl⟩ := Int.eq_ofNat_of_zero_le h2
  obtain ⟨f, rfl⟩ := Int.eq_ofNat_of_zero_le h5
  obtain ⟨k, hk⟩ := Int.eq_ofNat_of_zero_le (show 0 ≤ t - f by omega)
  have ht : t = ((f + k : Nat) : Int) := by omega
  have := rChain_fun o id.l q i f k x h1 h0 h4 (by omega)
  rw [ht, show (((f + k : Nat) : Int) - (f : Int)).toNat = k by omega]
  exact this) h
def σrpu (o : Ots) (id : By) (q : BitVec 32) (seed : By) (j : Nat) : St :=
  ⟨[(2, .u32 q), (3, Enc.enc seed), (4, .ptr 0 0), (5, .ptr 1 0), (9, .sl 2 0 (ends j (pubF o (hdS id q) seed)).length 1), (13, .i o.p), (14, .i j)],
   [(0, ⟨otsC o, true⟩), (1, ⟨id.map .u8, true⟩), (2, ⟨(ends j (pubF o (hdS id q) seed)).map .u8, true⟩)], 3⟩
set_option maxHeartbeats 4000000 in
theorem rPublic_fun (o : Ots) (id : By) (q : BitVec 32) (seed : By) (ho : OtsOK o) (hid : id.length = 16) (hs : (seed.length : Int) = o.n) :
    Fun Tryz.prog Gs 135 [Enc.enc o, Enc.enc (⟨id⟩ : Ar (BitVec 8)), Enc.enc q, Enc.enc seed] (Enc.ret (lpubO o id q seed)) := by
  refine Fun_cc [ctMost, ctRSecret, ctRChain, ctRShut] mo Tryz.func135 (by decide) cc135 rs135 Tryz.ntmps135 (by simp) ?_
  have hct := ctMost_ok (ctRSecret_ok (ctRChain_ok (ctRShut_ok CtOK_nil)))
  have hit : id.take 16 = id := List.take_of_length_le (by omega)
  have hp := ho.p
  have hn := ho.n
  have hw := ho.w
  have hw1 : 0 ≤ o.w ∧ o.w ≤ 61 := by rcases hw with h | h | h | h <;> omega
  have htn := topN_eq ho
  have htl := topN_le ho
  have hll : ∀ j, (ends j (pubF o (hdS id q) seed)).length = j * o.n.toNat := ends_len _ (pubF_len ho (hdS id q) seed)
  have hR : lpubO o id q seed = shutS (hO o) (hdS id q) (ends o.p.toNat (pubF o (hdS id q) seed)) := rfl
  rw [hR]
  refine AW_run hct 1000 ?_
  simp (maxSteps := 10000000) (disch := omega) only [go_sem, c135, ctMost, ctRSecret, ctRChain, ctRShut, reduceIte, seval, -BitVec.isValue, -BitVec.reduceOfNat, -List.reduceReplicate]
  refine AW_loop (σrpu o id q seed) (fun j => (j : Int) ≤ o.p) (fun j => o.p.toNat - j) 0 (by simp; omega) (Wk_p [] ?_) fun j hj => ?_
  · simp only [go_sem, σrpu, ends_zero, otsC, reduceIte, seval, -BitVec.isValue, -BitVec.reduceOfNat, -List.reduceReplicate]
    try simp
  · refine AW_ct [ctMost, ctRSecret, ctRChain, ctRShut] (AW_run hct 1000 ?_)
    have hjl := hll j
    by_cases hc : (j : Int) < o.p
    · have hsl := secS_len ho (hdS id q) seed j
      have hmul : j * o.n.toNat ≤ 265 * 32 := Nat.mul_le_mul (by omega) (by omega)
      have htt : ((2 : Int) ^ o.w.toNat - 1) = ((topN o : Nat) : Int) := htn.symm
      have hpf : chn (hO o) (preS (hdS id q) j) 0 (topN o) (secS (hO o) (hdS id q) seed j) = pubF o (hdS id q) seed j := rfl
      have hpl := pubF_len ho (hdS id q) seed j
      have hsn : (secS (hO o) (hdS id q) seed j).length ≤ 1000000 := by omega
      simp (maxSteps := 10000000) (disch := omega) only [go_sem, σrpu, otsC, hc, hjl, hw1, htt, ho, hid, hit, hsn, Int.sub_zero, hpf, hpl, ctMost, ctRSecret, ctRChain, ctRShut, reduceIte, seval, -BitVec.isValue, -BitVec.reduceOfNat, -List.reduceReplicate]
      refine ⟨j + 1, by omega, Wk_p [(2, 3)] ?_, by omega⟩
      simp only [go_sem, σrpu, otsC, reduceIte, seval, -BitVec.isValue, -BitVec.reduceOfNat, -List.reduceReplicate]
      simp [ends_succ, hjl, hpl]
    · have hge : j = o.p.toNat := by omega
      have hmul : j * o.n.toNat ≤ 265 * 32 := Nat.mul_le_mul (by omega) (by omega)
      have hej : (ends j (pubF o (hdS id q) seed)).take (j * o.n.toNat) = ends j (pubF o (hdS id q) seed) := List.take_of_length_le (by omega)
      have hjb : (ends j (pubF o (hdS id q) seed)).length ≤ 100000000 := by omega
      rw [← hge]
      simp (maxSteps := 10000000) (disch := omega) only [go_sem, σrpu, otsC, hc, hjl, hej, ho, hid, hit, hjb, ctMost, ctRSecret, ctRChain, ctRShut, reduceIte, seval, -BitVec.isValue, -BitVec.reduceOfNat, -List.reduceReplicate]
      try simp
def ctRPublic : Nat × (List AV → R) := (135, A4 fun (o : Ots) (id : Ar (BitVec 8)) (q : BitVec 32) (seed : By) => (OtsOK o ∧ id.l.length = 16 ∧ (seed.length : Int) = o.n, Enc.ret (lpubO o id.l q seed)))
theorem ctRPublic_ok {Ct : List (Nat × (List AV → R))} (h : CtOK Tryz.prog Gs Ct) : CtOK Tryz.prog Gs (ctRPublic :: Ct) := CtOK_cons (Row4 fun o id q seed h => rPublic_fun o id.l q seed h.1 h.2.1 h.2.2) h
end Go.Lv
namespace Go.Lv
open Go Go.Proofs
set_option linter.unusedSimpArgs false
set_option maxRecDepth 100000
section
variable {k : Leaf}
end
end Go.Lv
namespace Go.Lv
open Go Go.Proofs
set_option linter.unusedSimpArgs false
set_option maxRecDepth 100000
theorem digS_mem {o : Ots} {s : By} {d : Int} (h : d ∈ digS o s) : 0 ≤ d ∧ d ≤ 2 ^ o.w.toNat - 1 := by
  rcases List.mem_append.1 h with h | h
  · exact cutS_range d h
  · exact cutS_range d h
theorem digS_at {o : Ots} (ho : OtsOK o) {s : By} {j : Nat} (h : j < (digS o s).length) : 0 ≤ (digS o s).getD j 0 ∧ (digS o s).getD j 0 ≤ topN o := by
  rw [topN_eq ho]
  have hm : (digS o s).getD j 0 ∈ digS o s := by simp [List.getD_eq_getElem?_getD, h]
  exact digS_mem hm
def sgF (H : By → By) (hd seed : By) (ds : List Int) (i : Nat) : By := chn H (preS hd i) 0 (ds.getD i 0).toNat (secS H hd seed i)
theorem sgF_len {o : Ots} (ho : OtsOK o) (hd seed : By) (ds : List Int) (i : Nat) : (sgF (hO o) hd seed ds i).length = o.n.toNat := by
  have hn := ho.n
  exact chn_len (hO o) (fun t => by have := hO_len ho t; omega) _ _ _ _ (by have := secS_len ho hd seed i; omega)
def sgC (o : Ots) (hd seed : By) : By := secS (hO o) hd seed 65533
def sgD (o : Ots) (hd seed msg : By) : List Int := digS o (msgS (hO o) hd (sgC o hd seed) msg)
def sigH (o : Ots) (hd seed : By) : By := bigL (o.code.setWidth 64) 4 ++ sgC o hd seed
def sigO (o : Ots) (hd seed msg : By) : By := sigH o hd seed ++ lsgS (hO o) hd (sgD o hd seed msg) seed
theorem sgD_len {o : Ots} (ho : OtsOK o) (hd seed msg : By) : ((sgD o hd seed msg).length : Int) = o.p := digS_len o _ ho (hO_len ho _)
theorem sigH_len {o : Ots} (ho : OtsOK o) (hd seed : By) : ((sigH o hd seed).length : Int) = 4 + o.n := by
  have := secS_len ho hd seed 65533
  simp [sigH, sgC, bigL_len]; omega
def SignR (o : Ots) (id : By) (q : BitVec 32) (seed msg : By) : AV :=
  if rMay o seed = 0 then .tup [Enc.ret (sigO o (hdS id q) seed msg), .i 0] else nilE (rMay o seed)
def σsi (o : Ots) (hd seed : By) (ds : List Int) (j : Nat) : St :=
  ⟨[(3, Enc.enc seed), (13, .ptr 2 0), (15, .sl 3 0 (sigH o hd seed ++ ends j (sgF (hO o) hd seed ds)).length 1), (40, Enc.ret ds), (41, .i ds.length), (42, .i j)],
   [(2, ⟨lfC o hd, true⟩), (3, ⟨(sigH o hd seed ++ ends j (sgF (hO o) hd seed ds)).map .u8, true⟩)], 4⟩
set_option maxHeartbeats 4000000 in
theorem Sign_fun (o : Ots) (id : By) (q : BitVec 32) (seed msg : By) (hid : id.length = 16) (hm : msg.length ≤ 140737488351232) : Fun Tryz.prog Gs 104 [Enc.enc o, Enc.enc (⟨id⟩ : Ar (BitVec 8)), Enc.enc q, Enc.enc seed, Enc.enc msg] (SignR o id q seed msg) := by
  refine Fun_cc [mark 35, ctSeeded, ctAt, ctSec, ctU32, ctSaid, ctGoes] mo Tryz.func104 (by decide) cc104 rs104 Tryz.ntmps104 (by simp) ?_
  have hct := mark_ok 35 (ctSeeded_ok (ctAt_ok (ctSec_ok (ctU32_ok (ctSaid_ok (ctGoes_ok CtOK_nil))))))
  have hit : id.take 16 = id := List.take_of_length_le (by omega)
  by_cases h0 : rMay o seed = 0
  · obtain ⟨h, hs⟩ := rMay_0 h0
    have ho := otsT_ok h
    have hp := ho.p
    have hn := ho.n
    have htl := topN_le ho
    have hle := leOK_of h hid q
    have hdl := hd_len (q := q) hid
    obtain ⟨hd, hhd⟩ : ∃ hd, hd = hdS id q := ⟨_, rfl⟩
    rw [← hhd] at hle hdl
    have hc65 : secS (hO o) hd seed 65533 = sgC o hd seed := rfl
    have hcl : ((sgC o hd seed).length : Int) = o.n := secS_len ho hd seed 65533
    have hbl := bigL_len (o.code.setWidth 64) 4
    have hR : SignR o id q seed msg = .tup [Enc.ret (sigO o hd seed msg), .i 0] := by rw [SignR, if_pos h0, ← hhd]
    have hsn : seed.length ≤ 140737488351232 := by omega
    have hcn : (sgC o hd seed).length ≤ 140737488351232 := by omega
    have hdd : digS o (msgS (hO o) hd (sgC o hd seed) msg) = sgD o hd seed msg := rfl
    have hfl : [bigL (o.code.setWidth 64) 4, sgC o hd seed].flatten = sigH o hd seed := by simp [sigH]
    have hsl := sigH_len ho hd seed
    rw [hR]
    refine AW_run hct 1000 ?_
    simp (maxSteps := 10000000) (disch := omega) only [go_sem, c104, mark, ctSeeded, ctAt, ctSec, ctU32, ctSaid, ctGoes, h0, hid, hit, ← hhd, hdl, hle, hsn, hc65, hbl, reduceIte, seval, -BitVec.isValue, -BitVec.reduceOfNat, -List.reduceReplicate]
    refine AW_callG [] [(0, 4)] 5 [] false (by simp only [go_sem, reduceIte, seval, -BitVec.isValue, -BitVec.reduceOfNat, -List.reduceReplicate]) (by simp only [go_sem, reduceIte, seval, -BitVec.isValue, -BitVec.reduceOfNat, -List.reduceReplicate]) (OJoin_funG [bigL (o.code.setWidth 64) 4, sgC o hd seed] (by simp) (by rw [hfl]; omega)) (by rfl) (.inr rfl) (by simp only [go_sem, reduceIte, seval, -BitVec.isValue, -BitVec.reduceOfNat, -List.reduceReplicate]) (by rfl) (by simp only [go_sem, hbl, reduceIte, seval, -BitVec.isValue, -BitVec.reduceOfNat, -List.reduceReplicate]; try simp [hbl]) (by simp only [go_sem, reduceIte, seval, -BitVec.isValue, -BitVec.reduceOfNat, -List.reduceReplicate]) (by simp only [go_sem, reduceIte, seval, -BitVec.isValue, -BitVec.reduceOfNat, -List.reduceReplicate]) (by simp only [go_sem, reduceIte, seval, -BitVec.isValue, -BitVec.reduceOfNat, -List.reduceReplicate]) ?_
    refine AW_ct [mark 35, ctSeeded, ctAt, ctSec, ctU32, ctSaid, ctGoes] (AW_run hct 1000 ?_)
    obtain ⟨ds, hds⟩ : ∃ ds, ds = sgD o hd seed msg := ⟨_, rfl⟩
    have hdsl := sgD_len ho hd seed msg
    rw [← hds] at hdsl hdd
    have hll : ∀ j, (ends j (sgF (hO o) hd seed ds)).length = j * o.n.toNat := ends_len _ (sgF_len ho hd seed ds)
    simp (maxSteps := 10000000) (disch := omega) only [go_sem, mark, ctSeeded, ctAt, ctSec, ctU32, ctSaid, ctGoes, hfl, hle, hm, hcn, hdd, reduceIte, seval, -BitVec.isValue, -BitVec.reduceOfNat, -List.reduceReplicate]
    refine AW_loop (σsi o hd seed ds) (fun j => j ≤ ds.length) (fun j => ds.length - j) 0 (Nat.zero_le _) (Wk_p [(3, 4)] ?_) fun j hj => ?_
    · simp only [go_sem, σsi, ends_zero, lfC, reduceIte, seval, -BitVec.isValue, -BitVec.reduceOfNat, -List.reduceReplicate]
      try simp [hdl]
    · refine AW_ct [mark 35, ctSeeded, ctAt, ctSec, ctU32, ctSaid, ctGoes] (AW_run hct 1000 ?_)
      have hjl := hll j
      have hall : (sigH o hd seed ++ ends j (sgF (hO o) hd seed ds)).length = (sigH o hd seed).length + j * o.n.toNat := by rw [List.length_append, hjl]
      have hmul : j * o.n.toNat ≤ 265 * 32 := Nat.mul_le_mul (by omega) (by omega)
      obtain ⟨u, hu⟩ : ∃ u, u = sigH o hd seed ++ ends j (sgF (hO o) hd seed ds) := ⟨_, rfl⟩
      rw [← hu] at hall
      by_cases hc : j < ds.length
      · have hc' : (j : Int) < ds.length := by omega
        have hdj : 0 ≤ ds.getD j 0 ∧ ds.getD j 0 ≤ topN o := by rw [← hdd]; exact digS_at ho (by rw [hdd]; exact hc)
        have hsl2 := secS_len ho hd seed j
        have hpf : chn (hO o) (preS hd j) 0 (ds.getD j 0).toNat (secS (hO o) hd seed j) = sgF (hO o) hd seed ds j := rfl
        have hpl := sgF_len ho hd seed ds j
        have hsn2 : (secS (hO o) hd seed j).length ≤ 1000000 := by omega
        simp (maxSteps := 10000000) (disch := omega) only [go_sem, σsi, ← hu, lfC, hc', hall, hle, hsn, hsn2, Int.sub_zero, hpf, hpl, mark, ctSeeded, ctAt, ctSec, ctU32, ctSaid, ctGoes, reduceIte, seval, -BitVec.isValue, -BitVec.reduceOfNat, -List.reduceReplicate]
        refine ⟨j + 1, by omega, Wk_p [(3, 4)] ?_, by omega⟩
        have hu1 : sigH o hd seed ++ ends (j + 1) (sgF (hO o) hd seed ds) = u ++ sgF (hO o) hd seed ds j := by rw [ends_succ, ← List.append_assoc, ← hu]
        simp only [go_sem, σsi, lfC, hu1, reduceIte, seval, -BitVec.isValue, -BitVec.reduceOfNat, -List.reduceReplicate]
        simp [hall, hpl, hdl, ends_succ, hjl]
        try omega
      · have hge : j = ds.length := by omega
        have hc' : ¬ (j : Int) < ds.length := by omega
        have hfin : u = sigO o hd seed msg := by
          rw [hu, sigO, lsgS, ← hds, hge]; rfl
        simp (maxSteps := 10000000) (disch := omega) only [go_sem, σsi, ← hu, lfC, hc', hall, mark, ctSeeded, ctAt, ctSec, ctU32, ctSaid, ctGoes, reduceIte, seval, -BitVec.isValue, -BitVec.reduceOfNat, -List.reduceReplicate]
        rw [← hfin, ← hall]
        simp
  · rw [SignR, if_neg h0]
    refine AW_run hct 1000 ?_
    simp (maxSteps := 10000000) (disch := omega) only [go_sem, c104, mark, ctSeeded, ctAt, ctSec, ctU32, ctSaid, ctGoes, h0, nilE, reduceIte, seval, -BitVec.isValue, -BitVec.reduceOfNat, -List.reduceReplicate]
def ctLSign : Nat × (List AV → R) := (104, A5 fun (o : Ots) (id : Ar (BitVec 8)) (q : BitVec 32) (seed msg : By) => (id.l.length = 16 ∧ msg.length ≤ 140737488351232, SignR o id.l q seed msg))
theorem ctLSign_ok {Ct : List (Nat × (List AV → R))} (h : CtOK Tryz.prog Gs Ct) : CtOK Tryz.prog Gs (ctLSign :: Ct) := CtOK_cons (Row5 fun o id q seed m h => Sign_fun o id.l q seed m h.1 h.2) h
end Go.Lv
namespace Go.Lv
open Go Go.Proofs
set_option linter.unusedSimpArgs false
set_option maxRecDepth 100000
def orS (a b : By) : Nat → BitVec 8
  | 0 => 0
  | j + 1 => orS a b j ||| (a.getD j 0 ^^^ b.getD j 0)
theorem or_zero (x y : BitVec 8) : (x ||| y = 0) ↔ (x = 0 ∧ y = 0) := by
  constructor
  · intro h
    have : ∀ x y : BitVec 8, x ||| y = 0 → x = 0 ∧ y = 0 := by
      intro x y h
      constructor <;> (apply BitVec.eq_of_getLsbD_eq; intro i hi; have := congrArg (·.getLsbD i) h; simp at this; simp [this])
    exact this x y h
  · rintro ⟨rfl, rfl⟩; rfl
theorem xor_zero (x y : BitVec 8) : (x ^^^ y = 0) ↔ x = y := by
  constructor
  · intro h
    have : x ^^^ y ^^^ y = 0 ^^^ y := by rw [h]
    rw [BitVec.xor_assoc, BitVec.xor_self, BitVec.xor_zero] at this
    rw [this]; exact BitVec.zero_xor
  · rintro rfl; exact BitVec.xor_self
theorem orS_zero (a b : By) : ∀ j, orS a b j = 0 ↔ ∀ i, i < j → a.getD i 0 = b.getD i 0
  | 0 => by simp [orS]
  | j + 1 => by
    rw [orS, or_zero, orS_zero a b j, xor_zero]
    constructor
    · rintro ⟨h1, h2⟩ i hi
      by_cases e : i = j
      · subst e; exact h2
      · exact h1 i (by omega)
    · exact fun h => ⟨fun i hi => h i (by omega), h j (by omega)⟩
theorem orS_eq {a b : By} (h : a.length = b.length) : orS a b a.length = 0 ↔ a = b := by
  rw [orS_zero]
  constructor
  · intro hi
    apply List.ext_getElem h
    intro i h1 h2
    have := hi i h1
    simpa [List.getD_eq_getElem?_getD, h1, h2] using this
  · rintro rfl i _; rfl
def σsm (a b : By) (j : Nat) : St := ⟨[(0, Enc.enc a), (1, Enc.enc b), (5, .u8 (orS a b j)), (13, .i a.length), (14, .i j)], [], 0⟩
theorem Same_fun (a b : By) (ha : a.length ≤ 140737488351232) (hb : b.length ≤ 140737488351232) : Fun Tryz.prog Gs 114 [Enc.enc a, Enc.enc b] (.b (decide (a = b))) := by
  refine Fun_cc [] mo Tryz.func114 (by decide) cc114 rs114 Tryz.ntmps114 (by simp) ?_
  by_cases hl : a.length = b.length
  · refine AW_run CtOK_nil 1000 ?_
    have hl' : (a.length : Int) = b.length := by omega
    simp (maxSteps := 10000000) (disch := omega) only [go_sem, c114, hl', reduceIte, seval, -BitVec.isValue, -BitVec.reduceOfNat, -List.reduceReplicate]
    refine AW_loop (σsm a b) (fun j => j ≤ a.length) (fun j => a.length - j) 0 (Nat.zero_le _) (Wk_p [] ?_) fun j hj => ?_
    · simp only [go_sem, σsm, orS, hl, reduceIte, seval, -BitVec.isValue, -BitVec.reduceOfNat, -List.reduceReplicate]
      try simp
    · refine AW_run CtOK_nil 1000 ?_
      by_cases hc : j < a.length
      · have hc' : (j : Int) < a.length := by omega
        simp (maxSteps := 10000000) (disch := omega) only [go_sem, σsm, hc', reduceIte, seval, -BitVec.isValue, -BitVec.reduceOfNat, -List.reduceReplicate]
        refine ⟨j + 1, by omega, Wk_p [] ?_, by omega⟩
        simp only [go_sem, σsm, orS, reduceIte, seval, -BitVec.isValue, -BitVec.reduceOfNat, -List.reduceReplicate]
        try simp
      · have hge : j = a.length := by omega
        subst hge
        have hc' : ¬ (a.length : Int) < a.length := by omega
        have hz : decide (orS a b a.length = 0) = decide (a = b) := by rw [decide_eq_decide]; exact orS_eq hl
        simp (maxSteps := 10000000) (disch := omega) only [go_sem, σsm, hc', reduceIte, seval, -BitVec.isValue, -BitVec.reduceOfNat, -List.reduceReplicate]
        try simp
        exact orS_eq hl
  · have hne : ¬ a = b := fun e => hl (by rw [e])
    have hl' : ¬ (a.length : Int) = b.length := by omega
    refine AW_run CtOK_nil 1000 ?_
    simp (maxSteps := 10000000) (disch := omega) only [go_sem, c114, hl', hne, reduceIte, seval, -BitVec.isValue, -BitVec.reduceOfNat, -List.reduceReplicate]
def ctSame : Nat × (List AV → R) := (114, A2 fun a b : By => (a.length ≤ 140737488351232 ∧ b.length ≤ 140737488351232, .b (decide (a = b))))
theorem ctSame_ok {Ct : List (Nat × (List AV → R))} (h : CtOK Tryz.prog Gs Ct) : CtOK Tryz.prog Gs (ctSame :: Ct) := CtOK_cons (Row2 fun a b h => Same_fun a b h.1 h.2) h
def cnF (o : Ots) (hd rest : By) (ds : List Int) (i : Nat) : By := chn (hO o) (preS hd i) (ds.getD i 0).toNat (topN o - (ds.getD i 0).toNat) ((rest.drop (i * o.n.toNat)).take o.n.toNat)
def cnC (o : Ots) (sig : By) : By := (sig.drop 4).take o.n.toNat
def cnD (o : Ots) (hd msg sig : By) : List Int := digS o (msgS (hO o) hd (cnC o sig) msg)
def cnO (o : Ots) (hd msg sig : By) : By := shutS (hO o) hd (ends (cnD o hd msg sig).length (cnF o hd (sig.drop (4 + o.n.toNat)) (cnD o hd msg sig)))
def cnE (o : Ots) (sig : By) : Int := if otsT o.code = some o then if (sig.length : Int) = otsLen o ∧ sig.take 4 = bigL (o.code.setWidth 64) 4 then 0 else 70 else 60
def CandR (o : Ots) (id : By) (q : BitVec 32) (msg sig : By) : AV :=
  if cnE o sig = 0 then .tup [Enc.ret (cnO o (hdS id q) msg sig), .i 0] else nilE (cnE o sig)
theorem otsLen_eq {o : Ots} (h : otsT o.code = some o) : otsLen o = 4 + o.n * (o.p + 1) := by rw [otsLen, if_pos h]
theorem cnF_len {o : Ots} (ho : OtsOK o) (hd rest : By) (ds : List Int) (i p : Nat) (hi : i < p) (hr : rest.length = p * o.n.toNat) : (cnF o hd rest ds i).length = o.n.toNat := by
  have hn := ho.n
  refine chn_len (hO o) (fun t => by have := hO_len ho t; omega) _ _ _ _ ?_
  have : (i + 1) * o.n.toNat ≤ p * o.n.toNat := Nat.mul_le_mul_right _ hi
  rw [Nat.succ_mul] at this
  simp; omega
def σcn (o : Ots) (hd rest : By) (ds : List Int) (j : Nat) : St :=
  ⟨[(5, .ptr 0 0), (13, .ptr 2 0), (15, Enc.enc rest), (16, .sl 3 0 (ends j (cnF o hd rest ds)).length 1), (55, Enc.ret ds), (56, .i ds.length), (57, .i j)],
   [(0, ⟨otsC o, true⟩), (2, ⟨lfC o hd, true⟩), (3, ⟨(ends j (cnF o hd rest ds)).map .u8, true⟩)], 4⟩
theorem ends_len' {n : Nat} (f : Nat → By) (p : Nat) (hf : ∀ i, i < p → (f i).length = n) : ∀ j, j ≤ p → (ends j f).length = j * n
  | 0, _ => by simp [ends]
  | j + 1, h => by rw [ends_succ, List.length_append, ends_len' f p hf j (by omega), hf j (by omega), Nat.succ_mul]
theorem otsSm_of {o : Ots} (ho : OtsOK o) : otsSm o := by have := ho.p; have := ho.n; exact ⟨by omega, by omega, by omega, by omega⟩
set_option maxHeartbeats 8000000 in
theorem Cand_fun (o : Ots) (id : By) (q : BitVec 32) (msg sig : By) (hid : id.length = 16) (hm : msg.length ≤ 140737488351232) (hsg : sig.length ≤ 140737488351232) : Fun Tryz.prog Gs 113 [Enc.enc o, Enc.enc (⟨id⟩ : Ar (BitVec 8)), Enc.enc q, Enc.enc msg, Enc.enc sig] (CandR o id q msg sig) := by
  refine Fun_cc [ctMay, ctOtsLen 111, ctU32, ctSame, ctAt, ctSaid, ctTop, ctGoes, ctShut] mo Tryz.func113 (by decide) cc113 rs113 Tryz.ntmps113 (by simp) ?_
  have hct := ctMay_ok (ctOtsLen_ok (ctU32_ok (ctSame_ok (ctAt_ok (ctSaid_ok (ctTop_ok (ctGoes_ok (ctShut_ok CtOK_nil))))))))
  have hit : id.take 16 = id := List.take_of_length_le (by omega)
  by_cases h : otsT o.code = some o
  · have ho := otsT_ok h
    have hp := ho.p
    have hn := ho.n
    have hw := ho.w
    have hw1 : 0 ≤ o.w ∧ o.w ≤ 61 := by rcases hw with h | h | h | h <;> omega
    have htn := topN_eq ho
    have htl := topN_le ho
    have hsm := otsSm_of ho
    have hbl := bigL_len (o.code.setWidth 64) 4
    by_cases c1 : (sig.length : Int) = otsLen o
    · have hol := otsLen_eq h
      have hpn : o.n * (o.p + 1) = ((o.p.toNat + 1) * o.n.toNat : Nat) := by
        rw [Int.natCast_mul, Int.mul_comm]; congr 1 <;> omega
      have hsl : sig.length = 4 + (o.p.toNat + 1) * o.n.toNat := by omega
      have hsl2 : sig.length = 4 + o.n.toNat + o.p.toNat * o.n.toNat := by rw [hsl, Nat.succ_mul]; omega
      have c4 : (4 : Int) ≤ sig.length := by omega
      by_cases c2 : sig.take 4 = bigL (o.code.setWidth 64) 4
      · have hE : cnE o sig = 0 := by rw [cnE, if_pos h, if_pos ⟨c1, c2⟩]
        have hle := leOK_of h hid q
        have hdl := hd_len (q := q) hid
        rw [CandR, if_pos hE]
        obtain ⟨hd, hhd⟩ : ∃ hd, hd = hdS id q := ⟨_, rfl⟩
        rw [← hhd] at hle hdl ⊢
        have e4 : (4 + o.n).toNat = 4 + o.n.toNat := by omega
        have e4n : (4 : Int) + o.n ≤ sig.length := by omega
        have hcc : (sig.drop 4).take o.n.toNat = cnC o sig := rfl
        have hcl : (cnC o sig).length = o.n.toNat := by rw [cnC]; simp; omega
        obtain ⟨rest, hrest⟩ : ∃ rest, rest = sig.drop (4 + o.n.toNat) := ⟨_, rfl⟩
        have hrl : rest.length = o.p.toNat * o.n.toNat := by rw [hrest]; simp; omega
        have hA : 4 + o.n.toNat - 4 = o.n.toNat := by omega
        have hB : (otsLen o).toNat - (4 + o.n.toNat) = o.p.toNat * o.n.toNat := by omega
        have hC : (sig.drop (4 + o.n.toNat)).take (o.p.toNat * o.n.toNat) = rest := by rw [← hrest]; exact List.take_of_length_le (by omega)
        obtain ⟨ds, hds⟩ : ∃ ds, ds = cnD o hd msg sig := ⟨_, rfl⟩
        have hdd : digS o (msgS (hO o) hd (cnC o sig) msg) = ds := hds.symm
        have hdsl : (ds.length : Int) = o.p := by rw [← hdd]; exact digS_len o _ ho (hO_len ho _)
        have hfin : cnO o hd msg sig = shutS (hO o) hd (ends ds.length (cnF o hd rest ds)) := by rw [cnO, ← hds, hrest]
        have hll := ends_len' (cnF o hd rest ds) ds.length (fun i hi => cnF_len ho hd rest ds i o.p.toNat (by omega) hrl)
        rw [hfin]
        refine AW_run hct 1000 ?_
        simp (maxSteps := 10000000) (disch := omega) only [go_sem, c113, ctMay, ctOtsLen, ctU32, ctSame, ctAt, ctSaid, ctTop, ctGoes, ctShut, otsMay, h, hsm, c1, c2, c4, hbl, hid, hit, ← hhd, hdl, hle, e4, e4n, hA, hB, hC, hcc, hcl, hdd, hm, reduceIte, seval, -BitVec.isValue, -BitVec.reduceOfNat, -List.reduceReplicate]
        refine AW_null 16 1 (by simp only [go_sem, reduceIte, seval, -BitVec.isValue, -BitVec.reduceOfNat, -List.reduceReplicate]) ?_
        refine AW_loop (σcn o hd rest ds) (fun j => j ≤ ds.length) (fun j => ds.length - j) 0 (Nat.zero_le _) (Wk_p [] ?_) fun j hj => ?_
        · simp only [go_sem, σcn, ends_zero, lfC, otsC, hrl, reduceIte, seval, -BitVec.isValue, -BitVec.reduceOfNat, -List.reduceReplicate]
          try simp [hdl]
        · refine AW_ct [ctMay, ctOtsLen 111, ctU32, ctSame, ctAt, ctSaid, ctTop, ctGoes, ctShut] (AW_run hct 1000 ?_)
          have hjl := hll j hj
          have hmul : j * o.n.toNat ≤ 265 * 32 := Nat.mul_le_mul (by omega) (by omega)
          by_cases hc : j < ds.length
          · have hc' : (j : Int) < ds.length := by omega
            have hdj : 0 ≤ ds.getD j 0 ∧ ds.getD j 0 ≤ topN o := by rw [← hdd]; exact digS_at ho (by rw [hdd]; exact hc)
            have hmul2 : (j + 1) * o.n.toNat ≤ o.p.toNat * o.n.toNat := Nat.mul_le_mul_right _ (by omega)
            have hpm : o.p.toNat * o.n.toNat ≤ 265 * 32 := Nat.mul_le_mul (by omega) (by omega)
            have hsm1 : (j + 1) * o.n.toNat = j * o.n.toNat + o.n.toNat := Nat.succ_mul _ _
            have hi1 : (j : Int) * o.n = ((j * o.n.toNat : Nat) : Int) := by rw [Int.natCast_mul]; congr 1; omega
            have hi2 : ((j : Int) + 1) * o.n = (((j + 1) * o.n.toNat : Nat) : Int) := by rw [Int.natCast_mul]; congr 1; omega
            have htt : ((2 : Int) ^ o.w.toNat - 1) = ((topN o : Nat) : Int) := htn.symm
            have hst : ((topN o : Int) - ds.getD j 0).toNat = topN o - (ds.getD j 0).toNat := by omega
            have hsn : (j + 1) * o.n.toNat - j * o.n.toNat = o.n.toNat := by omega
            have hpf : chn (hO o) (preS hd j) (ds.getD j 0).toNat (topN o - (ds.getD j 0).toNat) ((rest.drop (j * o.n.toNat)).take o.n.toNat) = cnF o hd rest ds j := rfl
            have hpl := cnF_len ho hd rest ds j o.p.toNat (by omega) hrl
            have hxl : ((rest.drop (j * o.n.toNat)).take o.n.toNat).length = o.n.toNat := by simp; omega
            simp (maxSteps := 10000000) (disch := omega) only [go_sem, σcn, lfC, otsC, hc', hjl, hw1, htt, hle, hrl, hi1, hi2, hsn, hst, hxl, hpf, hpl, ctMay, ctOtsLen, ctU32, ctSame, ctAt, ctSaid, ctTop, ctGoes, ctShut, reduceIte, seval, -BitVec.isValue, -BitVec.reduceOfNat, -List.reduceReplicate]
            refine ⟨j + 1, by omega, Wk_p [(3, 4)] ?_, by omega⟩
            simp only [go_sem, σcn, lfC, otsC, hrl, reduceIte, seval, -BitVec.isValue, -BitVec.reduceOfNat, -List.reduceReplicate]
            simp [ends_succ, hjl, hpl, hdl]
          · have hge : j = ds.length := by omega
            have hc' : ¬ (j : Int) < ds.length := by omega
            have hej : (ends j (cnF o hd rest ds)).take (j * o.n.toNat) = ends j (cnF o hd rest ds) := List.take_of_length_le (by omega)
            have hjb : (ends j (cnF o hd rest ds)).length ≤ 140737488351232 := by omega
            rw [← hge]
            simp (maxSteps := 10000000) (disch := omega) only [go_sem, σcn, lfC, otsC, hc', hjl, hej, hle, hjb, ctMay, ctOtsLen, ctU32, ctSame, ctAt, ctSaid, ctTop, ctGoes, ctShut, reduceIte, seval, -BitVec.isValue, -BitVec.reduceOfNat, -List.reduceReplicate]
            try simp [hdl]
      · have hE : cnE o sig = 70 := by rw [cnE, if_pos h, if_neg (fun h => c2 h.2)]
        rw [CandR, hE, if_neg (by decide)]
        refine AW_run hct 1000 ?_
        simp (maxSteps := 10000000) (disch := omega) only [go_sem, c113, ctMay, ctOtsLen, ctU32, ctSame, ctAt, ctSaid, ctTop, ctGoes, ctShut, otsMay, h, hsm, c1, c2, c4, hbl, nilE, reduceIte, seval, -BitVec.isValue, -BitVec.reduceOfNat, -List.reduceReplicate]
    · have hE : cnE o sig = 70 := by rw [cnE, if_pos h, if_neg (fun h => c1 h.1)]
      rw [CandR, hE, if_neg (by decide)]
      refine AW_run hct 1000 ?_
      simp (maxSteps := 10000000) (disch := omega) only [go_sem, c113, ctMay, ctOtsLen, ctU32, ctSame, ctAt, ctSaid, ctTop, ctGoes, ctShut, otsMay, h, hsm, c1, nilE, reduceIte, seval, -BitVec.isValue, -BitVec.reduceOfNat, -List.reduceReplicate]
  · have hE : cnE o sig = 60 := by rw [cnE, if_neg h]
    rw [CandR, hE, if_neg (by decide)]
    refine AW_run hct 1000 ?_
    simp (maxSteps := 10000000) (disch := omega) only [go_sem, c113, ctMay, ctOtsLen, ctU32, ctSame, ctAt, ctSaid, ctTop, ctGoes, ctShut, otsMay, h, nilE, reduceIte, seval, -BitVec.isValue, -BitVec.reduceOfNat, -List.reduceReplicate]
def ctLCand : Nat × (List AV → R) := (113, A5 fun (o : Ots) (id : Ar (BitVec 8)) (q : BitVec 32) (msg sig : By) => (id.l.length = 16 ∧ msg.length ≤ 140737488351232 ∧ sig.length ≤ 140737488351232, CandR o id.l q msg sig))
theorem ctLCand_ok {Ct : List (Nat × (List AV → R))} (h : CtOK Tryz.prog Gs Ct) : CtOK Tryz.prog Gs (ctLCand :: Ct) := CtOK_cons (Row5 fun o id q m s h => Cand_fun o id.l q m s h.1 h.2.1 h.2.2) h
end Go.Lv
namespace Go.Lv
open Go Go.Proofs
set_option linter.unusedSimpArgs false
set_option maxRecDepth 100000
end Go.Lv
namespace Go.Lv
open Go Go.Proofs
set_option linter.unusedSimpArgs false
set_option maxRecDepth 100000
end Go.Lv
namespace Go.Lv
open Go Go.Proofs
set_option linter.unusedSimpArgs false
set_option maxRecDepth 100000
structure LK where
  l : Lms
  o : Ots
  id : By
  sd : By
def LK.c (k : LK) : List AV := [.u32 k.l.code, .b k.l.shake, .i k.l.n, .i k.l.h, .u32 k.o.code, .b k.o.shake, .i k.o.n, .i k.o.w, .i k.o.p, .i k.o.ls] ++ (k.id.map .u8 ++ [Enc.enc k.sd])
structure LKok (k : LK) : Prop where
  f : fitP k.l k.o
  i : k.id.length = 16
  s : (k.sd.length : Int) = k.l.n
theorem lmsT_sm {l : Lms} (h : lmsT l.code = some l) : lmsSm l := by
  have := lmsX_ok l.code
  rw [lmsX, h] at this
  exact this
theorem LKok.o {k : LK} (h : LKok k) : OtsOK k.o := otsT_ok h.f.2.1
theorem LKok.ot {k : LK} (h : LKok k) : otsT k.o.code = some k.o := h.f.2.1
theorem LKok.lm {k : LK} (h : LKok k) : lmsT k.l.code = some k.l := h.f.1
theorem LKok.n {k : LK} (h : LKok k) : k.l.n = k.o.n := h.f.2.2.2
theorem LKok.sm {k : LK} (h : LKok k) : 0 ≤ k.l.h ∧ k.l.h ≤ 25 ∧ 0 ≤ k.l.n ∧ k.l.n ≤ 32 := lmsT_sm h.lm
def lN (H h j : Nat) : BitVec 32 := BitVec.ofNat 32 (2 ^ (H - h) + j)
def lfS (o : Ots) (id : By) (r : BitVec 32) (pub : By) : By := hO o (hdS id r ++ bigL 0x8282#64 2 ++ pub)
def ndS (o : Ots) (id : By) (r : BitVec 32) (a b : By) : By := hO o (hdS id r ++ bigL 0x8383#64 2 ++ (a ++ b))
theorem lfS_len {o : Ots} (ho : OtsOK o) (id : By) (r : BitVec 32) (pub : By) : (lfS o id r pub).length = o.n.toNat := by have := hO_len ho (hdS id r ++ bigL 0x8282#64 2 ++ pub); rw [lfS]; omega
theorem ndS_len {o : Ots} (ho : OtsOK o) (id : By) (r : BitVec 32) (a b : By) : (ndS o id r a b).length = o.n.toNat := by have := hO_len ho (hdS id r ++ bigL 0x8383#64 2 ++ (a ++ b)); rw [ndS]; omega
def lnode (k : LK) : Nat → Nat → By
  | 0, j => lfS k.o k.id (lN k.l.h.toNat 0 j) (lpubO k.o k.id (BitVec.ofNat 32 j) k.sd)
  | h + 1, j => ndS k.o k.id (lN k.l.h.toNat (h + 1) j) (lnode k h (2 * j)) (lnode k h (2 * j + 1))
theorem lnode_len {k : LK} (hk : LKok k) : ∀ h j, (lnode k h j).length = k.o.n.toNat
  | 0, j => lfS_len hk.o _ _ _
  | h + 1, j => ndS_len hk.o _ _ _ _
def lsk (n c : Nat) : List (Nat × Nat) := ((List.range 5).filter fun h => decide (c ≤ h) && decide (n / 2 ^ h % 2 = 1)).reverse.map fun h => (h, n / 2 ^ h - 1)
theorem lsk_top : ∀ c < 5, ∀ n < 17, n / 2 ^ c % 2 = 1 → lsk n c = lsk n (c + 1) ++ [(c, n / 2 ^ c - 1)] := by decide +kernel
theorem lsk_non : ∀ c < 5, ∀ n < 17, n / 2 ^ c % 2 = 0 → lsk n c = [] ∨ ∃ p L, lsk n c = L ++ [p] ∧ p.1 ≠ c := by
  have : ∀ c < 5, ∀ n < 17, n / 2 ^ c % 2 = 0 → lsk n c = [] ∨ (((lsk n c).getLast?.getD (c, 0)).1 ≠ c ∧ lsk n c ≠ []) := by decide +kernel
  intro c hc n hn h
  rcases this c hc n hn h with h | ⟨h1, h2⟩
  · exact .inl h
  · refine .inr ⟨(lsk n c).getLast h2, (lsk n c).dropLast, (List.dropLast_concat_getLast h2).symm, ?_⟩
    rw [List.getLast?_eq_some_getLast h2] at h1
    exact h1
theorem lsk_put : ∀ c < 5, ∀ n < 16, n % 2 ^ c = 2 ^ c - 1 ∧ n / 2 ^ c % 2 = 0 → lsk n c ++ [(c, n / 2 ^ c)] = lsk (n + 1) 0 := by decide +kernel
theorem lsk_lenc : ∀ c < 6, ∀ n < 17, (lsk n c).length ≤ 5 := by decide +kernel
theorem lsk_all : ∀ h < 5, lsk (2 ^ h) 0 = [(h, 0)] := by decide +kernel
theorem lsk_zero : lsk 0 0 = [] := by decide +kernel
theorem lones_succ : ∀ n < 16, ∀ c < 5, n % 2 ^ c = 2 ^ c - 1 ∧ n / 2 ^ c % 2 = 1 → n % 2 ^ (c + 1) = 2 ^ (c + 1) - 1 ∧ c < 4 ∧ n / 2 ^ (c + 1) = n / 2 ^ c / 2 ∧ 2 * (n / 2 ^ c / 2) = n / 2 ^ c - 1 ∧ 2 * (n / 2 ^ c / 2) + 1 = n / 2 ^ c := by decide +kernel
def lsib (n : Nat) (path : By) (h : Nat) : By := (path.drop (h * n)).take n
theorem lsib_len (n : Nat) (path : By) (h : Nat) (hl : (h + 1) * n ≤ path.length) : (lsib n path h).length = n := by
  rw [Nat.succ_mul] at hl
  simp [lsib]; omega
def lpath (k : LK) (i n : Nat) : By := ends n fun h => lnode k h ((i / 2 ^ h) ^^^ 1)
theorem lpath_len {k : LK} (hk : LKok k) (i n : Nat) : (lpath k i n).length = n * k.o.n.toNat := ends_len _ (fun _ => lnode_len hk _ _) _
theorem lpath_succ (k : LK) (i n : Nat) : lpath k i (n + 1) = lpath k i n ++ lnode k n ((i / 2 ^ n) ^^^ 1) := ends_succ _ _
def lclimb (o : Ots) (id : By) (H i : Nat) (path : By) : Nat → By → By
  | 0, b => b
  | h + 1, b => if i / 2 ^ h % 2 = 0 then ndS o id (lN H (h + 1) (i / 2 ^ (h + 1))) (lclimb o id H i path h b) (lsib o.n.toNat path h) else ndS o id (lN H (h + 1) (i / 2 ^ (h + 1))) (lsib o.n.toNat path h) (lclimb o id H i path h b)
theorem lclimb_len {o : Ots} (ho : OtsOK o) (id : By) (H i : Nat) (path : By) : ∀ h b, b.length = o.n.toNat → (lclimb o id H i path h b).length = o.n.toNat
  | 0, _, hb => hb
  | h + 1, b, _ => by rw [lclimb]; split <;> exact ndS_len ho _ _ _ _
theorem lsib_even : ∀ q < 16, q % 2 = 0 → q ^^^ 1 = q + 1 := by decide +kernel
theorem lsib_odd : ∀ q < 16, q % 2 = 1 → q ^^^ 1 = q - 1 := by decide +kernel
theorem lclimb_node {k : LK} (hk : LKok k) (i : Nat) (hi : i < 16) : ∀ h, h ≤ k.l.h.toNat → lclimb k.o k.id k.l.h.toNat i (lpath k i k.l.h.toNat) h (lnode k 0 i) = lnode k h (i / 2 ^ h)
  | 0, _ => by simp [lclimb]
  | h + 1, hh => by
    have ih := lclimb_node hk i hi h (by omega)
    have hs : lsib k.o.n.toNat (lpath k i k.l.h.toNat) h = lnode k h ((i / 2 ^ h) ^^^ 1) := ends_at _ (fun _ => lnode_len hk _ _) _ _ (by omega)
    have hq : i / 2 ^ (h + 1) = i / 2 ^ h / 2 := by rw [Nat.pow_succ, Nat.div_div_eq_div_mul]
    have hlt : i / 2 ^ h < 16 := Nat.lt_of_le_of_lt (Nat.div_le_self _ _) hi
    rw [lclimb, ih, hs, lnode]
    split
    · rename_i e
      rw [lsib_even _ hlt e, hq, show 2 * (i / 2 ^ h / 2) = i / 2 ^ h by omega]
    · rename_i e
      rw [lsib_odd _ hlt (by omega), hq, show 2 * (i / 2 ^ h / 2) + 1 = i / 2 ^ h by omega, show 2 * (i / 2 ^ h / 2) = i / 2 ^ h - 1 by omega]
theorem lclimb_root {k : LK} (hk : LKok k) (i : Nat) (hi : i < 2 ^ k.l.h.toNat) (hh : k.l.h.toNat ≤ 4) : lclimb k.o k.id k.l.h.toNat i (lpath k i k.l.h.toNat) k.l.h.toNat (lnode k 0 i) = lnode k k.l.h.toNat 0 := by
  have h16 : i < 16 := Nat.lt_of_lt_of_le hi (Nat.pow_le_pow_right (n := 2) (by omega) hh)
  rw [lclimb_node hk i h16 _ (Nat.le_refl _), Nat.div_eq_of_lt hi]
theorem ldiv {H i h : Nat} (hh : h ≤ H) : (2 ^ H + i) / 2 ^ h = 2 ^ (H - h) + i / 2 ^ h := by
  rw [show 2 ^ H = 2 ^ h * 2 ^ (H - h) by rw [← Nat.pow_add]; congr 1; omega, Nat.mul_add_div (Nat.pow_pos (by omega))]
def lpubS' (k : LK) : By := bigL (k.l.code.setWidth 64) 4 ++ bigL (k.o.code.setWidth 64) 4 ++ k.id ++ lnode k k.l.h.toNat 0
def lsigS (k : LK) (q : BitVec 32) (msg : By) : By := bigL (q.setWidth 64) 4 ++ sigO k.o (hdS k.id q) k.sd msg ++ bigL (k.l.code.setWidth 64) 4 ++ lpath k q.toNat k.l.h.toNat
theorem lpubS'_len {k : LK} (hk : LKok k) : (lpubS' k).length = 24 + k.o.n.toNat := by
  have := lnode_len hk k.l.h.toNat 0
  have := hk.i
  simp [lpubS', bigL_len]; omega
end Go.Lv
namespace Go.Lv
open Go Go.Proofs
set_option linter.unusedSimpArgs false
set_option maxRecDepth 100000
theorem num_big4 (i : BitVec 32) : numS (bigL (i.setWidth 64) 4) = i.setWidth 64 := by
  have h : bigL (i.setWidth 64) 4 = [byteAt (i.setWidth 64) 3, byteAt (i.setWidth 64) 2, byteAt (i.setWidth 64) 1, byteAt (i.setWidth 64) 0] := rfl
  rw [h]
  apply BitVec.eq_of_toNat_eq
  have hi := i.isLt
  simp only [numS, List.foldl_cons, List.foldl_nil, byteAt, BitVec.toNat_add, BitVec.toNat_mul, BitVec.toNat_setWidth, BitVec.toNat_ushiftRight, Nat.shiftRight_eq_div_pow, BitVec.toNat_ofNat, show (0 : BitVec 64).toNat = 0 from rfl, show (256 : BitVec 64).toNat = 256 from rfl]
  omega
def nm4 (b : By) (j : Nat) : BitVec 32 := (numS ((b.drop j).take 4)).setWidth 32
def lvK (pub : By) : Option LK := if pub.length < 8 then none else match lmsT (nm4 pub 0), otsT (nm4 pub 4) with
  | some l, some o => if fitP l o ∧ (pub.length : Int) = lmsPub l then some ⟨l, o, (pub.drop 8).take 16, []⟩ else none
  | _, _ => none
def oE (o : Ots) : Nat := 4 + (otsLen o).toNat
def lvL (k : LK) (msg sig : By) : By := lfS k.o k.id (lN k.l.h.toNat 0 (nm4 sig 0).toNat) (cnO k.o (hdS k.id (nm4 sig 0)) msg ((sig.drop 4).take (otsLen k.o).toNat))
def lvC (k : LK) (msg sig : By) : By := lclimb k.o k.id k.l.h.toNat (nm4 sig 0).toNat (sig.drop (oE k.o + 4)) k.l.h.toNat (lvL k msg sig)
def lvE (pub msg sig : By) : Int := match lvK pub with
  | none => 81
  | some k => if (sig.length : Int) = lmsLen k.l k.o then (if (nm4 sig 0).toNat < 2 ^ k.l.h.toNat ∧ nm4 sig (oE k.o) = k.l.code then (if cnE k.o ((sig.drop 4).take (otsLen k.o).toNat) = 0 then (if lvC k msg sig = pub.drop 24 then 0 else 70) else 70) else 70) else 70
def LK.pk (k : LK) : LK := ⟨k.l, k.o, k.id, []⟩
theorem lpub_K {k : LK} (hk : LKok k) : lvK (lpubS' k) = some k.pk ∧ (lpubS' k).drop 24 = lnode k k.l.h.toNat 0 := by
  have hn := lpubS'_len hk
  have hi := hk.i
  have h4 : ∀ x : BitVec 64, (bigL x 4).length = 4 := fun x => bigL_len _ _
  have c0 : nm4 (lpubS' k) 0 = k.l.code := by
    rw [nm4, List.drop_zero, lpubS', List.append_assoc, List.append_assoc, List.take_left' (h4 _), num_big4]
    exact BitVec.setWidth_setWidth_of_le _ (by decide)
  have c1 : nm4 (lpubS' k) 4 = k.o.code := by
    rw [nm4, lpubS', List.append_assoc, List.append_assoc, List.drop_left' (h4 _), List.take_left' (h4 _), num_big4]
    exact BitVec.setWidth_setWidth_of_le _ (by decide)
  have c2 : ((lpubS' k).drop 8).take 16 = k.id := by
    rw [lpubS', List.append_assoc, List.drop_left' (by simp [h4]), List.take_left' hi]
  have c3 : (lpubS' k).drop 24 = lnode k k.l.h.toNat 0 := by
    rw [lpubS', List.drop_left' (by simp [h4, hi])]
  have hon := hk.o.n
  have hkn := hk.n
  have c4 : ((lpubS' k).length : Int) = lmsPub k.l := by rw [lmsPub, if_pos hk.lm, hn, hkn]; omega
  refine ⟨?_, c3⟩
  rw [lvK, if_neg (by omega), c0, c1, hk.lm, hk.ot]
  simp only [if_pos (show fitP k.l k.o ∧ ((lpubS' k).length : Int) = lmsPub k.l from ⟨hk.f, c4⟩), c2]
  rfl
theorem sigO_len {o : Ots} (h : otsT o.code = some o) (hd seed msg : By) : ((sigO o hd seed msg).length : Int) = otsLen o := by
  have ho := otsT_ok h
  have h1 := sigH_len ho hd seed
  have h2 := sgD_len ho hd seed msg
  have hp := ho.p
  have hn := ho.n
  have h3 : (lsgS (hO o) hd (sgD o hd seed msg) seed).length = (sgD o hd seed msg).length * o.n.toNat := ends_len (n := o.n.toNat) _ (fun i => sgF_len ho hd seed (sgD o hd seed msg) i) _
  rw [sigO, List.length_append, otsLen_eq h, h3, Int.natCast_add, h1, Int.natCast_mul, h2, show (o.n.toNat : Int) = o.n by omega, Int.mul_add, Int.mul_comm o.n o.p]
  omega
theorem cn_own {o : Ots} (h : otsT o.code = some o) (hd seed msg : By) : cnE o (sigO o hd seed msg) = 0 ∧ cnO o hd msg (sigO o hd seed msg) = lpubS (hO o) hd (topN o) o.p.toNat seed := by
  have ho := otsT_ok h
  have hn := ho.n
  have hp := ho.p
  have h4 : (bigL (o.code.setWidth 64) 4).length = 4 := bigL_len _ _
  have hC := hO_len ho (preS hd 65533 ++ [255#8] ++ seed)
  have hCl : (sgC o hd seed).length = o.n.toNat := by rw [sgC, secS]; omega
  have hl := sigO_len h hd seed msg
  have ht : (sigO o hd seed msg).take 4 = bigL (o.code.setWidth 64) 4 := by rw [sigO, sigH, List.append_assoc, List.take_left' h4]
  have hc : cnC o (sigO o hd seed msg) = sgC o hd seed := by rw [cnC, sigO, sigH, List.append_assoc, List.drop_left' h4, List.take_left' hCl]
  have hr : (sigO o hd seed msg).drop (4 + o.n.toNat) = lsgS (hO o) hd (sgD o hd seed msg) seed := by rw [sigO, sigH, List.drop_left' (by rw [List.length_append, h4, hCl])]
  have hD : cnD o hd msg (sigO o hd seed msg) = sgD o hd seed msg := by rw [cnD, hc]; rfl
  refine ⟨by rw [cnE, if_pos h, if_pos ⟨hl, ht⟩], ?_⟩
  have hdl := sgD_len ho hd seed msg
  have := lcn_own (n := o.n.toNat) (hO o) (fun t => by have := hO_len ho t; omega) hd (topN o) (sgD o hd seed msg) seed fun i hi => by
    have := digS_at ho hi
    have e : (digS o (msgS (hO o) hd (sgC o hd seed) msg)).getD i 0 = (sgD o hd seed msg).getD i 0 := rfl
    omega
  rw [cnO, hD, hr]
  have e2 : (sgD o hd seed msg).length = o.p.toNat := by omega
  rw [e2] at this
  rw [e2]
  rw [lcnS, e2] at this
  exact this
theorem lsig_parts {k : LK} (hk : LKok k) (q : BitVec 32) (msg : By) : nm4 (lsigS k q msg) 0 = q ∧ ((lsigS k q msg).drop 4).take (otsLen k.o).toNat = sigO k.o (hdS k.id q) k.sd msg ∧ nm4 (lsigS k q msg) (oE k.o) = k.l.code ∧ (lsigS k q msg).drop (oE k.o + 4) = lpath k q.toNat k.l.h.toNat ∧ ((lsigS k q msg).length : Int) = lmsLen k.l k.o ∧ 8 ≤ (lsigS k q msg).length := by
  have h4 : ∀ x : BitVec 64, (bigL x 4).length = 4 := fun x => bigL_len _ _
  have ho := hk.o
  have hs := sigO_len hk.ot (hdS k.id q) k.sd msg
  have hsl : (sigO k.o (hdS k.id q) k.sd msg).length = (otsLen k.o).toNat := by omega
  have hpl := lpath_len hk q.toNat k.l.h.toNat
  have hsm := hk.sm
  have hkn := hk.n
  refine ⟨?_, ?_, ?_, ?_, ?_, ?_⟩
  · rw [nm4, List.drop_zero, lsigS, List.append_assoc, List.append_assoc, List.take_left' (h4 _), num_big4]
    exact BitVec.setWidth_setWidth_of_le _ (by decide)
  · rw [lsigS, List.append_assoc, List.append_assoc, List.drop_left' (h4 _), List.take_left' hsl]
  · rw [nm4, lsigS, List.append_assoc, List.drop_left' (by rw [List.length_append, h4, hsl, oE]), List.take_left' (h4 _), num_big4]
    exact BitVec.setWidth_setWidth_of_le _ (by decide)
  · rw [lsigS, List.drop_left' (by rw [List.length_append, List.length_append, h4, h4, hsl, oE])]
  · have q1 : k.l.h * k.l.n = ((k.l.h.toNat * k.o.n.toNat : Nat) : Int) := by rw [Int.natCast_mul, hkn, show (k.l.h.toNat : Int) = k.l.h by omega, show (k.o.n.toNat : Int) = k.o.n by omega]
    rw [lmsLen, if_pos hk.f, q1, lsigS, List.length_append, List.length_append, List.length_append, h4, h4, hsl, hpl]
    omega
  · rw [lsigS, List.length_append, List.length_append, List.length_append, h4, h4]; omega
theorem lms_own {k : LK} (hk : LKok k) (hh : k.l.h.toNat ≤ 4) (q : BitVec 32) (hq : q.toNat < 2 ^ k.l.h.toNat) (msg : By) : lvE (lpubS' k) msg (lsigS k q msg) = 0 := by
  obtain ⟨p1, p2⟩ := lpub_K hk
  obtain ⟨s1, s2, s3, s4, s5, s6⟩ := lsig_parts hk q msg
  obtain ⟨c1, c2⟩ := cn_own hk.ot (hdS k.id q) k.sd msg
  have hii : BitVec.ofNat 32 q.toNat = q := by simp
  have hL : lvL k.pk msg (lsigS k q msg) = lnode k 0 q.toNat := by
    rw [lvL, LK.pk, s1, s2, c2, lnode, hii]; rfl
  have hC : lvC k.pk msg (lsigS k q msg) = lnode k k.l.h.toNat 0 := by
    rw [lvC, hL, LK.pk, s1, s4]
    exact lclimb_root hk q.toNat hq hh
  rw [lvE, p1]
  simp only [LK.pk, s1, s2, s3, p2] at hC ⊢
  rw [if_pos s5, if_pos (show q.toNat < 2 ^ k.l.h.toNat ∧ True from ⟨hq, trivial⟩), if_pos c1, if_pos hC]
end Go.Lv
