/- A part of the proof. -/
import Derived.Test.YtffmejeeddplaaaGreatDoorGO
import Derived.Test.YtffmejeeddplaaaGreatDoorGN
import Derived.Test.YtffmejeeddplaaaGreatDoorGV
import Derived.Test.YtffmejeeddplaaaGreatDoorGK
set_option linter.all false
namespace Go.Lv
open Go Go.Proofs
set_option linter.unusedSimpArgs false
set_option maxRecDepth 100000
def l0 (ls : List Level) : Level := ls.getD 0 lv0
def kH (v : Level) (id seed : By) : LK := ⟨lmsX v.a, otsX v.b, id, seed⟩
def msE (ls : List Level) (seed : By) : Int := if mayP ls then (if (seed.length : Int) = (lmsX (l0 ls).a).n then 0 else 1) else 90
def hiV (v : Level) : Bool := decide (4 < (lmsX v.a).h) || decide (4 < (otsX v.b).w)
def hiB (ls : List Level) : Bool := ls.any hiV
theorem hiB_at {ls : List Level} {j : Nat} (h : j < ls.length) (hj : hiV (ls.getD j lv0) = true) : hiB ls = true := by
  rw [hiB, List.any_eq_true]
  refine ⟨ls.getD j lv0, ?_, hj⟩
  rw [List.getD_eq_getElem?_getD, List.getElem?_eq_getElem h]
  exact List.getElem_mem h
theorem hiB_no {ls : List Level} (h : ∀ j, j < ls.length → hiV (ls.getD j lv0) = false) : hiB ls = false := by
  rw [hiB, List.any_eq_false]
  intro x hx
  obtain ⟨j, hj, rfl⟩ := List.getElem_of_mem hx
  have := h j hj
  rw [List.getD_eq_getElem?_getD, List.getElem?_eq_getElem hj, Option.getD_some] at this
  rw [this]; decide
theorem hiB_of {ls : List Level} (h : hiB ls = false) {j : Nat} (hj : j < ls.length) : (lmsX (ls.getD j lv0).a).h ≤ 4 := by
  rcases Int.lt_or_le 4 (lmsX (ls.getD j lv0).a).h with h4 | h4
  · have := hiB_at hj (by rw [hiV, decide_eq_true h4]; rfl)
    rw [h] at this; cases this
  · exact h4
theorem may_fit {ls : List Level} (h : mayP ls) {j : Nat} (hj : j < ls.length) : vfit (ls.getD j lv0) := (h.2.2.1 j hj).1
theorem kH_ok {v : Level} {id seed : By} (hf : vfit v) (hi : id.length = 16) (hs : (seed.length : Int) = (lmsX v.a).n) : LKok (kH v id seed) := ⟨hf, hi, hs⟩
def σhi (ls : List Level) (k : Nat) : St := ⟨[(7, .ros false ls.length (lvc ls)), (8, .i ls.length), (9, .i k)], [], 0⟩
set_option maxHeartbeats 4000000 in
theorem high_fun (ls : Lvs) (hl : ls.l.length ≤ 140737488351232) : Fun Tryz.prog Gs 34 [Enc.enc ls] (.b (hiB ls.l)) := by
  obtain ⟨ls⟩ := ls
  simp only at hl ⊢
  have hct := ctRSets_ok (CtOK_nil (P := Tryz.prog) (Gl := Gs))
  refine Fun_cc [ctRSets] mo Tryz.func34 (by decide) cc34 rs34 Tryz.ntmps34 (by simp) (AW_run hct 1000 ?_)
  simp (maxSteps := 10000000) (disch := omega) only [go_sem, c34, reduceIte, seval, -BitVec.isValue, -BitVec.reduceOfNat, -List.reduceReplicate]
  refine AW_loop (σhi ls) (fun k => k ≤ ls.length ∧ ∀ j, j < k → hiV (ls.getD j lv0) = false) (fun k => ls.length - k) 0 ⟨Nat.zero_le _, fun j hj => absurd hj (Nat.not_lt_zero _)⟩ (Wk_p [] ?_) fun k hk => ?_
  · simp only [go_sem, σhi, reduceIte, seval, -BitVec.isValue, -BitVec.reduceOfNat, -List.reduceReplicate]
    try simp
  · obtain ⟨hk, hg⟩ := hk
    by_cases hd : k < ls.length
    · have hd' : (k : Int) < ls.length := by omega
      have hat := lvc_at' ls k hd
      obtain ⟨v, hv⟩ : ∃ v, v = ls.getD k lv0 := ⟨_, rfl⟩
      rw [← hv] at hat
      have hvl : (⟨v.a, v.b⟩ : Level) = v := rfl
      by_cases g1 : 4 < (lmsX v.a).h
      · have hB : hiB ls = true := hiB_at hd (by rw [← hv, hiV, decide_eq_true g1]; rfl)
        refine AW_run hct 1000 ?_
        simp (maxSteps := 10000000) (disch := omega) only [go_sem, σhi, ctRSets, hd', hat, hvl, eq_true g1, hB, reduceIte, seval, -BitVec.isValue, -BitVec.reduceOfNat, -List.reduceReplicate]
      · by_cases g2 : 4 < (otsX v.b).w
        · have hB : hiB ls = true := hiB_at hd (by rw [← hv, hiV, decide_eq_true g2, Bool.or_true])
          refine AW_run hct 1000 ?_
          simp (maxSteps := 10000000) (disch := omega) only [go_sem, σhi, ctRSets, hd', hat, hvl, eq_false g1, eq_true g2, hB, reduceIte, seval, -BitVec.isValue, -BitVec.reduceOfNat, -List.reduceReplicate]
        · refine AW_run hct 1000 ?_
          simp (maxSteps := 10000000) (disch := omega) only [go_sem, σhi, ctRSets, hd', hat, hvl, eq_false g1, eq_false g2, reduceIte, seval, -BitVec.isValue, -BitVec.reduceOfNat, -List.reduceReplicate]
          refine ⟨k + 1, ⟨by omega, fun j hj => ?_⟩, Wk_p [] ?_, by omega⟩
          · by_cases e : j < k
            · exact hg j e
            · rw [show j = k by omega, ← hv, hiV, decide_eq_false g1, decide_eq_false g2]; rfl
          · simp only [go_sem, σhi, reduceIte, seval, -BitVec.isValue, -BitVec.reduceOfNat, -List.reduceReplicate]
            try simp
    · have hke : k = ls.length := by omega
      subst hke
      have hd' : ¬ ((ls.length : Int) < ls.length) := by omega
      have hB : hiB ls = false := hiB_no hg
      refine AW_run hct 1000 ?_
      simp (maxSteps := 10000000) (disch := omega) only [go_sem, σhi, hd', hB, reduceIte, seval, -BitVec.isValue, -BitVec.reduceOfNat, -List.reduceReplicate]
def ctHigh9 : Nat × (List AV → R) := (34, A1 fun ls : Lvs => (ls.l.length ≤ 140737488351232, .b (hiB ls.l)))
theorem ctHigh9_ok {Ct : List (Nat × (List AV → R))} (h : CtOK Tryz.prog Gs Ct) : CtOK Tryz.prog Gs (ctHigh9 :: Ct) := CtOK_cons (Row1 fun ls h => high_fun ls h) h
theorem msE_0 {ls : List Level} {id seed : By} (h : msE ls seed = 0) (hi : id.length = 16) : mayP ls ∧ LKok (kH (l0 ls) id seed) := by
  rw [msE] at h
  split at h
  · rename_i hm
    split at h
    · rename_i hs
      exact ⟨hm, kH_ok (may_fit hm hm.1) hi hs⟩
    · cases h
  · cases h
set_option maxHeartbeats 2000000 in
theorem hseeded_fun (ls : Lvs) (id seed : By) (hl : ls.l.length ≤ 140737488351232) (hid : id.length = 16) : Fun Tryz.prog Gs 84 [Enc.enc ls, Enc.enc (⟨id⟩ : Ar (BitVec 8)), Enc.enc seed] (.tup [if msE ls.l seed = 0 then .agg (lkC (kH (l0 ls.l) id seed)) else .agg zk, .i (msE ls.l seed)]) := by
  obtain ⟨ls⟩ := ls
  simp only at hl ⊢
  have hit : id.take 16 = id := List.take_of_length_le (by omega)
  have hct := ctMayL_ok (ctSets_ok (CtOK_nil (P := Tryz.prog) (Gl := Gs)))
  refine Fun_cc [ctMayL, ctSets] mo Tryz.func84 (by decide) cc84 rs84 Tryz.ntmps84 (by simp) (AW_run hct 1000 ?_)
  by_cases hm : mayP ls
  · have h1 : 0 < ls.length := hm.1
    have h1' : (0 : Int) < ls.length := by omega
    have hat0 := lvc_at' ls 0 h1
    rw [Nat.zero_mul, List.drop_zero] at hat0
    have hvl : (⟨(ls.getD 0 lv0).a, (ls.getD 0 lv0).b⟩ : Level) = ls.getD 0 lv0 := rfl
    have hE : msE ls seed = if (seed.length : Int) = (lmsX (ls.getD 0 lv0).a).n then 0 else 1 := by rw [msE, if_pos hm]; rfl
    have hk : kH (l0 ls) id seed = kH (ls.getD 0 lv0) id seed := rfl
    rw [hk]
    obtain ⟨v, hv⟩ : ∃ v, v = ls.getD 0 lv0 := ⟨_, rfl⟩
    rw [← hv] at hat0 hvl hE ⊢
    by_cases hs : (seed.length : Int) = (lmsX v.a).n
    · have hE0 : msE ls seed = 0 := by rw [hE, if_pos hs]
      rw [if_pos hE0, hE0]
      simp (maxSteps := 10000000) (disch := omega) only [go_sem, c84, ctMayL, ctSets, hm, h1, h1', hat0, hvl, hid, hit, eq_true hs, kH, lkC, reduceIte, seval, -BitVec.isValue, -BitVec.reduceOfNat, -List.reduceReplicate]
      try simp
    · have hE0 : msE ls seed = 1 := by rw [hE, if_neg hs]
      rw [if_neg (by rw [hE0]; decide), hE0]
      simp (maxSteps := 10000000) (disch := omega) only [go_sem, c84, ctMayL, ctSets, hm, h1, h1', hat0, hvl, hid, hit, eq_false hs, zk, reduceIte, seval, -BitVec.isValue, -BitVec.reduceOfNat, -List.reduceReplicate]
      try simp
  · have hE0 : msE ls seed = 90 := by rw [msE, if_neg hm]
    rw [if_neg (by rw [hE0]; decide), hE0]
    simp (maxSteps := 10000000) (disch := omega) only [go_sem, c84, ctMayL, ctSets, eq_false hm, hid, hit, zk, reduceIte, seval, -BitVec.isValue, -BitVec.reduceOfNat, -List.reduceReplicate]
    try simp
def ctSeeded9 : Nat × (List AV → R) := (84, A3 fun (ls : Lvs) (id : Ar (BitVec 8)) (seed : By) => (ls.l.length ≤ 140737488351232 ∧ id.l.length = 16, .tup [if msE ls.l seed = 0 then .agg (lkC (kH (l0 ls.l) id.l seed)) else .agg zk, .i (msE ls.l seed)]))
theorem ctSeeded9_ok {Ct : List (Nat × (List AV → R))} (h : CtOK Tryz.prog Gs Ct) : CtOK Tryz.prog Gs (ctSeeded9 :: Ct) := CtOK_cons (Row3 fun ls id s h => hseeded_fun ls id.l s h.1 h.2) h
theorem tpublic_fun (k : LK) (hk : LKok k) (hH : k.l.h.toNat ≤ 4) (hsd : k.sd.length ≤ 140737488351232) : Fun Tryz.prog Gs 87 [.agg (lkC k)] (Enc.ret (lpubS' k)) := by
  have hid := hk.i
  have hit : k.id.take 16 = k.id := List.take_of_length_le (by omega)
  have hm : mdE k.l k.o k.sd = 0 := by rw [mdE, if_pos hk.f, if_pos hk.s]
  have hP : lpubR k.l k.o k.id k.sd = .tup [Enc.ret (lpubS' k), .i 0] := by rw [lpubR, if_pos hm]
  have hI : k.l.h ≤ 4 := by omega
  have hct := ctLPub_ok (CtOK_nil (P := Tryz.prog) (Gl := Gs))
  refine Fun_cc _ mo Tryz.func87 (by decide) cc87 rs87 Tryz.ntmps87 (by simp) (AW_run hct 1000 ?_)
  simp (maxSteps := 10000000) (disch := omega) only [go_sem, c87, ctLPub, lkC, hid, hit, hsd, hm, hI, hP, reduceIte, seval, -BitVec.isValue, -BitVec.reduceOfNat, -List.reduceReplicate]
  try simp
def hpubS (ls : List Level) (id seed : By) : By := bigL (BitVec.ofNat 64 ls.length) 4 ++ lpubS' (kH (l0 ls) id seed)
def hpubR (ls : List Level) (id seed : By) : AV := if msE ls seed = 0 then .tup [Enc.ret (hpubS ls id seed), .i 0] else nilE (msE ls seed)
set_option maxHeartbeats 2000000 in
theorem hPublic_fun (ls : Lvs) (id seed : By) (hl : ls.l.length ≤ 140737488351232) (hid : id.length = 16) (hsd : seed.length ≤ 140737488351232) (hh : hiB ls.l = false) : Fun Tryz.prog Gs 35 [Enc.enc ls, Enc.enc (⟨id⟩ : Ar (BitVec 8)), Enc.enc seed] (hpubR ls.l id seed) := by
  obtain ⟨ls⟩ := ls
  simp only at hl hh ⊢
  have hit : id.take 16 = id := List.take_of_length_le (by omega)
  by_cases h0 : msE ls seed = 0
  · obtain ⟨hm, hk⟩ := msE_0 h0 hid
    have h8 := hm.2.1
    have h4h := hiB_of hh hm.1
    have hH : (kH (l0 ls) id seed).l.h.toNat ≤ 4 := by
      have e : (kH (l0 ls) id seed).l.h = (lmsX (ls.getD 0 lv0).a).h := rfl
      omega
    rw [hpubR, if_pos h0]
    obtain ⟨k, hkk⟩ : ∃ k, k = kH (l0 ls) id seed := ⟨_, rfl⟩
    have hki : k.id.length = 16 := by rw [hkk]; exact hid
    have hks : k.sd.length ≤ 140737488351232 := by rw [hkk]; exact hsd
    have hP : hpubS ls id seed = bigL (BitVec.ofNat 64 ls.length) 4 ++ lpubS' k := by rw [hpubS, ← hkk]
    rw [← hkk] at hk hH
    have hkt : k.id.take 16 = k.id := List.take_of_length_le (by omega)
    have hpl := lpubS'_len hk
    have hon := hk.o.n
    have hkn := hk.n
    have hcv : (BitVec.ofInt 32 (ls.length : Int)).setWidth 64 = BitVec.ofNat 64 ls.length := by
      apply BitVec.eq_of_toNat_eq
      rw [BitVec.ofInt_natCast, BitVec.toNat_setWidth, BitVec.toNat_ofNat, BitVec.toNat_ofNat]; omega
    have hb4 := bigL_len (BitVec.ofNat 64 ls.length) 4
    have hf : [bigL (BitVec.ofNat 64 ls.length) 4, lpubS' k].flatten = hpubS ls id seed := by rw [hP]; simp
    have hfl : (hpubS ls id seed).length ≤ 140737488351232 := by rw [hP, List.length_append]; omega
    have hct := mark_ok 26 (ctSeeded9_ok (ctU32_ok (ct1_ok (tpublic_fun k hk hH hks) (ctOJoin_ok (CtOK_nil (P := Tryz.prog) (Gl := Gs))))))
    refine Fun_cc [mark 26, ctSeeded9, ctU32, ct1 87 [.agg (lkC k)] (Enc.ret (lpubS' k)), ctOJoin] mo Tryz.func35 (by decide) cc35 rs35 Tryz.ntmps35 (by simp) (AW_run hct 1000 ?_)
    simp (maxSteps := 10000000) (disch := omega) only [go_sem, c35, mark, ctSeeded9, ctU32, ct1, ctOJoin, lkC, ← hkk, hki, hkt, h0, hl, hid, hit, hcv, hb4, hf, hfl, hpl, deL_cons, deL_nil, reduceIte, seval, -BitVec.isValue, -BitVec.reduceOfNat, -List.reduceReplicate]
    try simp
  · rw [hpubR, if_neg h0]
    obtain ⟨e, he⟩ : ∃ e, e = msE ls seed := ⟨_, rfl⟩
    rw [← he] at h0 ⊢
    have hct := ctSeeded9_ok (CtOK_nil (P := Tryz.prog) (Gl := Gs))
    refine Fun_cc _ mo Tryz.func35 (by decide) cc35 rs35 Tryz.ntmps35 (by simp) (AW_run hct 1000 ?_)
    simp (maxSteps := 10000000) (disch := omega) only [go_sem, c35, ctSeeded9, zk, ← he, eq_false h0, if_neg h0, hl, hid, hit, nilE, reduceIte, seval, -BitVec.isValue, -BitVec.reduceOfNat, -List.reduceReplicate]
    try simp
end Go.Lv
