/- A part of the proof. -/
import Derived.Test.YtkpeoplkldpmlaaDoorZg
import Derived.Test.YtkpeoplkldpmlaaDoorGK
set_option linter.all false
namespace Go.Lv
open Go Go.Proofs
set_option linter.unusedSimpArgs false
set_option maxRecDepth 100000

/-! ## Same -/
def orS (a b : By) : Nat → BitVec 8
  | 0 => 0
  | j + 1 => orS a b j ||| (a.getD j 0 ^^^ b.getD j 0)
theorem or_zero (x y : BitVec 8) : (x ||| y = 0) ↔ (x = 0 ∧ y = 0) := by
  constructor
  · intro h
    have : ∀ x y : BitVec 8, x ||| y = 0 → x = 0 ∧ y = 0 := by
      intro x y h
      constructor <;> (apply BitVec.eq_of_getLsbD_eq; intro i hi; have := congrArg (·.getLsbD i) h; simp at this; simp [this])
    exact this x y h
  · rintro ⟨rfl, rfl⟩; rfl
theorem xor_zero (x y : BitVec 8) : (x ^^^ y = 0) ↔ x = y := by
  constructor
  · intro h
    have : x ^^^ y ^^^ y = 0 ^^^ y := by rw [h]
    rw [BitVec.xor_assoc, BitVec.xor_self, BitVec.xor_zero] at this
    rw [this]; exact BitVec.zero_xor
  · rintro rfl; exact BitVec.xor_self
theorem orS_zero (a b : By) : ∀ j, orS a b j = 0 ↔ ∀ i, i < j → a.getD i 0 = b.getD i 0
  | 0 => by simp [orS]
  | j + 1 => by
    rw [orS, or_zero, orS_zero a b j, xor_zero]
    constructor
    · rintro ⟨h1, h2⟩ i hi
      by_cases e : i = j
      · subst e; exact h2
      · exact h1 i (by omega)
    · exact fun h => ⟨fun i hi => h i (by omega), h j (by omega)⟩
theorem orS_eq {a b : By} (h : a.length = b.length) : orS a b a.length = 0 ↔ a = b := by
  rw [orS_zero]
  constructor
  · intro hi
    apply List.ext_getElem h
    intro i h1 h2
    have := hi i h1
    simpa [List.getD_eq_getElem?_getD, h1, h2] using this
  · rintro rfl i _; rfl
def σsm (a b : By) (j : Nat) : St := ⟨[(0, Enc.enc a), (1, Enc.enc b), (5, .u8 (orS a b j)), (13, .i a.length), (14, .i j)], [], 0⟩
theorem Same_fun (a b : By) (ha : a.length ≤ 140737488351232) (hb : b.length ≤ 140737488351232) : Fun Tryd.prog Gs 133 [Enc.enc a, Enc.enc b] (.b (decide (a = b))) := by
  refine Fun_cc [] mo Tryd.func133 (by decide) cc133 rs133 Tryd.ntmps133 (by simp) ?_
  by_cases hl : a.length = b.length
  · refine AW_run CtOK_nil 1000 ?_
    have hl' : (a.length : Int) = b.length := by omega
    simp (maxSteps := 10000000) (disch := omega) only [go_sem, c133, hl', reduceIte, seval, -BitVec.isValue, -BitVec.reduceOfNat, -List.reduceReplicate]
    refine AW_loop (σsm a b) (fun j => j ≤ a.length) (fun j => a.length - j) 0 (Nat.zero_le _) (Wk_p [] ?_) fun j hj => ?_
    · simp only [go_sem, σsm, orS, hl, reduceIte, seval, -BitVec.isValue, -BitVec.reduceOfNat, -List.reduceReplicate]
      try simp
    · refine AW_run CtOK_nil 1000 ?_
      by_cases hc : j < a.length
      · have hc' : (j : Int) < a.length := by omega
        simp (maxSteps := 10000000) (disch := omega) only [go_sem, σsm, hc', reduceIte, seval, -BitVec.isValue, -BitVec.reduceOfNat, -List.reduceReplicate]
        refine ⟨j + 1, by omega, Wk_p [] ?_, by omega⟩
        simp only [go_sem, σsm, orS, reduceIte, seval, -BitVec.isValue, -BitVec.reduceOfNat, -List.reduceReplicate]
        try simp
      · have hge : j = a.length := by omega
        subst hge
        have hc' : ¬ (a.length : Int) < a.length := by omega
        have hz : decide (orS a b a.length = 0) = decide (a = b) := by rw [decide_eq_decide]; exact orS_eq hl
        simp (maxSteps := 10000000) (disch := omega) only [go_sem, σsm, hc', reduceIte, seval, -BitVec.isValue, -BitVec.reduceOfNat, -List.reduceReplicate]
        try simp
        exact orS_eq hl
  · have hne : ¬ a = b := fun e => hl (by rw [e])
    have hl' : ¬ (a.length : Int) = b.length := by omega
    refine AW_run CtOK_nil 1000 ?_
    simp (maxSteps := 10000000) (disch := omega) only [go_sem, c133, hl', hne, reduceIte, seval, -BitVec.isValue, -BitVec.reduceOfNat, -List.reduceReplicate]
def ctSame : Nat × (List AV → R) := (133, A2 fun a b : By => (a.length ≤ 140737488351232 ∧ b.length ≤ 140737488351232, .b (decide (a = b))))
theorem ctSame_ok {Ct : List (Nat × (List AV → R))} (h : CtOK Tryd.prog Gs Ct) : CtOK Tryd.prog Gs (ctSame :: Ct) := CtOK_cons (Row2 fun a b h => Same_fun a b h.1 h.2) h

/-! ## The public key that a signature comes to -/
def cnF (o : Ots) (hd rest : By) (ds : List Int) (i : Nat) : By := chn (hO o) (preS hd i) (ds.getD i 0).toNat (topN o - (ds.getD i 0).toNat) ((rest.drop (i * o.n.toNat)).take o.n.toNat)
def cnC (o : Ots) (sig : By) : By := (sig.drop 4).take o.n.toNat
def cnD (o : Ots) (hd msg sig : By) : List Int := digS o (msgS (hO o) hd (cnC o sig) msg)
def cnO (o : Ots) (hd msg sig : By) : By := shutS (hO o) hd (ends (cnD o hd msg sig).length (cnF o hd (sig.drop (4 + o.n.toNat)) (cnD o hd msg sig)))
def cnE (o : Ots) (sig : By) : Int := if otsT o.code = some o then if (sig.length : Int) = otsLen o ∧ sig.take 4 = bigL (o.code.setWidth 64) 4 then 0 else 70 else 60
def CandR (o : Ots) (id : By) (q : BitVec 32) (msg sig : By) : AV :=
  if cnE o sig = 0 then .tup [Enc.ret (cnO o (hdS id q) msg sig), .i 0] else nilE (cnE o sig)
theorem otsLen_eq {o : Ots} (h : otsT o.code = some o) : otsLen o = 4 + o.n * (o.p + 1) := by rw [otsLen, if_pos h]
theorem cnF_len {o : Ots} (ho : OtsOK o) (hd rest : By) (ds : List Int) (i p : Nat) (hi : i < p) (hr : rest.length = p * o.n.toNat) : (cnF o hd rest ds i).length = o.n.toNat := by
  have hn := ho.n
  refine chn_len (hO o) (fun t => by have := hO_len ho t; omega) _ _ _ _ ?_
  have : (i + 1) * o.n.toNat ≤ p * o.n.toNat := Nat.mul_le_mul_right _ hi
  rw [Nat.succ_mul] at this
  simp; omega
def σcn (o : Ots) (hd rest : By) (ds : List Int) (j : Nat) : St :=
  ⟨[(5, .ptr 0 0), (13, .ptr 2 0), (15, Enc.enc rest), (16, .sl 3 0 (ends j (cnF o hd rest ds)).length 1), (55, Enc.ret ds), (56, .i ds.length), (57, .i j)],
   [(0, ⟨otsC o, true⟩), (2, ⟨lfC o hd, true⟩), (3, ⟨(ends j (cnF o hd rest ds)).map .u8, true⟩)], 4⟩
theorem ends_len' {n : Nat} (f : Nat → By) (p : Nat) (hf : ∀ i, i < p → (f i).length = n) : ∀ j, j ≤ p → (ends j f).length = j * n
  | 0, _ => by simp [ends]
  | j + 1, h => by rw [ends_succ, List.length_append, ends_len' f p hf j (by omega), hf j (by omega), Nat.succ_mul]
theorem otsSm_of {o : Ots} (ho : OtsOK o) : otsSm o := by have := ho.p; have := ho.n; exact ⟨by omega, by omega, by omega, by omega⟩
set_option maxHeartbeats 8000000 in
theorem Cand_fun (o : Ots) (id : By) (q : BitVec 32) (msg sig : By) (hid : id.length = 16) (hm : msg.length ≤ 140737488351232) (hsg : sig.length ≤ 140737488351232) : Fun Tryd.prog Gs 53 [Enc.enc o, Enc.enc (⟨id⟩ : Ar (BitVec 8)), Enc.enc q, Enc.enc msg, Enc.enc sig] (CandR o id q msg sig) := by
  refine Fun_cc [ctMay, ctOtsLen 132, ctU32, ctSame, ctAt, ctSaid, ctTop, ctGoes, ctShut] mo Tryd.func53 (by decide) cc53 rs53 Tryd.ntmps53 (by simp) ?_
  have hct := ctMay_ok (ctOtsLen_ok (ctU32_ok (ctSame_ok (ctAt_ok (ctSaid_ok (ctTop_ok (ctGoes_ok (ctShut_ok CtOK_nil))))))))
  have hit : id.take 16 = id := List.take_of_length_le (by omega)
  by_cases h : otsT o.code = some o
  · have ho := otsT_ok h
    have hp := ho.p
    have hn := ho.n
    have hw := ho.w
    have hw1 : 0 ≤ o.w ∧ o.w ≤ 61 := by rcases hw with h | h | h | h <;> omega
    have htn := topN_eq ho
    have htl := topN_le ho
    have hsm := otsSm_of ho
    have hbl := bigL_len (o.code.setWidth 64) 4
    by_cases c1 : (sig.length : Int) = otsLen o
    · have hol := otsLen_eq h
      have hpn : o.n * (o.p + 1) = ((o.p.toNat + 1) * o.n.toNat : Nat) := by
        rw [Int.natCast_mul, Int.mul_comm]; congr 1 <;> omega
      have hsl : sig.length = 4 + (o.p.toNat + 1) * o.n.toNat := by omega
      have hsl2 : sig.length = 4 + o.n.toNat + o.p.toNat * o.n.toNat := by rw [hsl, Nat.succ_mul]; omega
      have c4 : (4 : Int) ≤ sig.length := by omega
      by_cases c2 : sig.take 4 = bigL (o.code.setWidth 64) 4
      · have hE : cnE o sig = 0 := by rw [cnE, if_pos h, if_pos ⟨c1, c2⟩]
        have hle := leOK_of h hid q
        have hdl := hd_len (q := q) hid
        rw [CandR, if_pos hE]
        obtain ⟨hd, hhd⟩ : ∃ hd, hd = hdS id q := ⟨_, rfl⟩
        rw [← hhd] at hle hdl ⊢
        have e4 : (4 + o.n).toNat = 4 + o.n.toNat := by omega
        have e4n : (4 : Int) + o.n ≤ sig.length := by omega
        have hcc : (sig.drop 4).take o.n.toNat = cnC o sig := rfl
        have hcl : (cnC o sig).length = o.n.toNat := by rw [cnC]; simp; omega
        obtain ⟨rest, hrest⟩ : ∃ rest, rest = sig.drop (4 + o.n.toNat) := ⟨_, rfl⟩
        have hrl : rest.length = o.p.toNat * o.n.toNat := by rw [hrest]; simp; omega
        have hA : 4 + o.n.toNat - 4 = o.n.toNat := by omega
        have hB : (otsLen o).toNat - (4 + o.n.toNat) = o.p.toNat * o.n.toNat := by omega
        have hC : (sig.drop (4 + o.n.toNat)).take (o.p.toNat * o.n.toNat) = rest := by rw [← hrest]; exact List.take_of_length_le (by omega)
        obtain ⟨ds, hds⟩ : ∃ ds, ds = cnD o hd msg sig := ⟨_, rfl⟩
        have hdd : digS o (msgS (hO o) hd (cnC o sig) msg) = ds := hds.symm
        have hdsl : (ds.length : Int) = o.p := by rw [← hdd]; exact digS_len o _ ho (hO_len ho _)
        have hfin : cnO o hd msg sig = shutS (hO o) hd (ends ds.length (cnF o hd rest ds)) := by rw [cnO, ← hds, hrest]
        have hll := ends_len' (cnF o hd rest ds) ds.length (fun i hi => cnF_len ho hd rest ds i o.p.toNat (by omega) hrl)
        rw [hfin]
        refine AW_run hct 1000 ?_
        simp (maxSteps := 10000000) (disch := omega) only [go_sem, c53, ctMay, ctOtsLen, ctU32, ctSame, ctAt, ctSaid, ctTop, ctGoes, ctShut, otsMay, h, hsm, c1, c2, c4, hbl, hid, hit, ← hhd, hdl, hle, e4, e4n, hA, hB, hC, hcc, hcl, hdd, hm, reduceIte, seval, -BitVec.isValue, -BitVec.reduceOfNat, -List.reduceReplicate]
        refine AW_null 16 1 (by simp only [go_sem, reduceIte, seval, -BitVec.isValue, -BitVec.reduceOfNat, -List.reduceReplicate]) ?_
        refine AW_loop (σcn o hd rest ds) (fun j => j ≤ ds.length) (fun j => ds.length - j) 0 (Nat.zero_le _) (Wk_p [] ?_) fun j hj => ?_
        · simp only [go_sem, σcn, ends_zero, lfC, otsC, hrl, reduceIte, seval, -BitVec.isValue, -BitVec.reduceOfNat, -List.reduceReplicate]
          try simp [hdl]
        · refine AW_ct [ctMay, ctOtsLen 132, ctU32, ctSame, ctAt, ctSaid, ctTop, ctGoes, ctShut] (AW_run hct 1000 ?_)
          have hjl := hll j hj
          have hmul : j * o.n.toNat ≤ 265 * 32 := Nat.mul_le_mul (by omega) (by omega)
          by_cases hc : j < ds.length
          · have hc' : (j : Int) < ds.length := by omega
            have hdj : 0 ≤ ds.getD j 0 ∧ ds.getD j 0 ≤ topN o := by rw [← hdd]; exact digS_at ho (by rw [hdd]; exact hc)
            have hmul2 : (j + 1) * o.n.toNat ≤ o.p.toNat * o.n.toNat := Nat.mul_le_mul_right _ (by omega)
            have hpm : o.p.toNat * o.n.toNat ≤ 265 * 32 := Nat.mul_le_mul (by omega) (by omega)
            have hsm1 : (j + 1) * o.n.toNat = j * o.n.toNat + o.n.toNat := Nat.succ_mul _ _
            have hi1 : (j : Int) * o.n = ((j * o.n.toNat : Nat) : Int) := by rw [Int.natCast_mul]; congr 1; omega
            have hi2 : ((j : Int) + 1) * o.n = (((j + 1) * o.n.toNat : Nat) : Int) := by rw [Int.natCast_mul]; congr 1; omega
            have htt : ((2 : Int) ^ o.w.toNat - 1) = ((topN o : Nat) : Int) := htn.symm
            have hst : ((topN o : Int) - ds.getD j 0).toNat = topN o - (ds.getD j 0).toNat := by omega
            have hsn : (j + 1) * o.n.toNat - j * o.n.toNat = o.n.toNat := by omega
            have hpf : chn (hO o) (preS hd j) (ds.getD j 0).toNat (topN o - (ds.getD j 0).toNat) ((rest.drop (j * o.n.toNat)).take o.n.toNat) = cnF o hd rest ds j := rfl
            have hpl := cnF_len ho hd rest ds j o.p.toNat (by omega) hrl
            have hxl : ((rest.drop (j * o.n.toNat)).take o.n.toNat).length = o.n.toNat := by simp; omega
            simp (maxSteps := 10000000) (disch := omega) only [go_sem, σcn, lfC, otsC, hc', hjl, hw1, htt, hle, hrl, hi1, hi2, hsn, hst, hxl, hpf, hpl, ctMay, ctOtsLen, ctU32, ctSame, ctAt, ctSaid, ctTop, ctGoes, ctShut, reduceIte, seval, -BitVec.isValue, -BitVec.reduceOfNat, -List.reduceReplicate]
            refine ⟨j + 1, by omega, Wk_p [(3, 4)] ?_, by omega⟩
            simp only [go_sem, σcn, lfC, otsC, hrl, reduceIte, seval, -BitVec.isValue, -BitVec.reduceOfNat, -List.reduceReplicate]
            simp [ends_succ, hjl, hpl, hdl]
          · have hge : j = ds.length := by omega
            have hc' : ¬ (j : Int) < ds.length := by omega
            have hej : (ends j (cnF o hd rest ds)).take (j * o.n.toNat) = ends j (cnF o hd rest ds) := List.take_of_length_le (by omega)
            have hjb : (ends j (cnF o hd rest ds)).length ≤ 140737488351232 := by omega
            rw [← hge]
            simp (maxSteps := 10000000) (disch := omega) only [go_sem, σcn, lfC, otsC, hc', hjl, hej, hle, hjb, ctMay, ctOtsLen, ctU32, ctSame, ctAt, ctSaid, ctTop, ctGoes, ctShut, reduceIte, seval, -BitVec.isValue, -BitVec.reduceOfNat, -List.reduceReplicate]
            try simp [hdl]
      · have hE : cnE o sig = 70 := by rw [cnE, if_pos h, if_neg (fun h => c2 h.2)]
        rw [CandR, hE, if_neg (by decide)]
        refine AW_run hct 1000 ?_
        simp (maxSteps := 10000000) (disch := omega) only [go_sem, c53, ctMay, ctOtsLen, ctU32, ctSame, ctAt, ctSaid, ctTop, ctGoes, ctShut, otsMay, h, hsm, c1, c2, c4, hbl, nilE, reduceIte, seval, -BitVec.isValue, -BitVec.reduceOfNat, -List.reduceReplicate]
    · have hE : cnE o sig = 70 := by rw [cnE, if_pos h, if_neg (fun h => c1 h.1)]
      rw [CandR, hE, if_neg (by decide)]
      refine AW_run hct 1000 ?_
      simp (maxSteps := 10000000) (disch := omega) only [go_sem, c53, ctMay, ctOtsLen, ctU32, ctSame, ctAt, ctSaid, ctTop, ctGoes, ctShut, otsMay, h, hsm, c1, nilE, reduceIte, seval, -BitVec.isValue, -BitVec.reduceOfNat, -List.reduceReplicate]
  · have hE : cnE o sig = 60 := by rw [cnE, if_neg h]
    rw [CandR, hE, if_neg (by decide)]
    refine AW_run hct 1000 ?_
    simp (maxSteps := 10000000) (disch := omega) only [go_sem, c53, ctMay, ctOtsLen, ctU32, ctSame, ctAt, ctSaid, ctTop, ctGoes, ctShut, otsMay, h, nilE, reduceIte, seval, -BitVec.isValue, -BitVec.reduceOfNat, -List.reduceReplicate]
def ctLCand : Nat × (List AV → R) := (53, A5 fun (o : Ots) (id : Ar (BitVec 8)) (q : BitVec 32) (msg sig : By) => (id.l.length = 16 ∧ msg.length ≤ 140737488351232 ∧ sig.length ≤ 140737488351232, CandR o id.l q msg sig))
theorem ctLCand_ok {Ct : List (Nat × (List AV → R))} (h : CtOK Tryd.prog Gs Ct) : CtOK Tryd.prog Gs (ctLCand :: Ct) := CtOK_cons (Row5 fun o id q m s h => Cand_fun o id.l q m s h.1 h.2.1 h.2.2) h
end Go.Lv
