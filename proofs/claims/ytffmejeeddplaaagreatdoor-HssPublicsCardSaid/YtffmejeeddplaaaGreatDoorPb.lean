/- A part of the proof. -/
import Derived.Test.YtffmejeeddplaaaGreatDoorPa
import Derived.Test.YtffmejeeddplaaaGreatDoorGK
set_option linter.all false
namespace Go.Lv
open Go Go.Proofs
set_option linter.unusedSimpArgs false
set_option maxRecDepth 100000
theorem rMaySeedG_fun (ls : Lvs) (seed : By) (hl : ls.l.length ≤ 140737488351232) : Fun Tryz.prog Gs 36 [Enc.enc ls, Enc.enc seed] (.i (msE ls.l seed)) := by
  obtain ⟨ls⟩ := ls
  simp only at hl ⊢
  have hct := ctRMayL_ok (ctRSets_ok (CtOK_nil (P := Tryz.prog) (Gl := Gs)))
  refine Fun_cc [ctRMayL, ctRSets] mo Tryz.func36 (by decide) cc36 rs36 Tryz.ntmps36 (by simp) (AW_run hct 1000 ?_)
  by_cases hm : mayP ls
  · have h1 : 0 < ls.length := hm.1
    have h1' : (0 : Int) < ls.length := by omega
    have hat0 := lvc_at' ls 0 h1
    rw [Nat.zero_mul, List.drop_zero] at hat0
    have hvl : (⟨(ls.getD 0 lv0).a, (ls.getD 0 lv0).b⟩ : Level) = ls.getD 0 lv0 := rfl
    have hE : msE ls seed = if (seed.length : Int) = (lmsX (ls.getD 0 lv0).a).n then 0 else 1 := by rw [msE, if_pos hm]; rfl
    obtain ⟨v, hv⟩ : ∃ v, v = ls.getD 0 lv0 := ⟨_, rfl⟩
    rw [← hv] at hat0 hvl hE
    by_cases hs : (seed.length : Int) = (lmsX v.a).n
    · have hE0 : msE ls seed = 0 := by rw [hE, if_pos hs]
      rw [hE0]
      simp (maxSteps := 10000000) (disch := omega) only [go_sem, c36, ctRMayL, ctRSets, eq_true hm, decide_true, h1, h1', hat0, hvl, eq_true hs, reduceIte, seval, -BitVec.isValue, -BitVec.reduceOfNat, -List.reduceReplicate]
    · have hE0 : msE ls seed = 1 := by rw [hE, if_neg hs]
      rw [hE0]
      simp (maxSteps := 10000000) (disch := omega) only [go_sem, c36, ctRMayL, ctRSets, eq_true hm, decide_true, h1, h1', hat0, hvl, eq_false hs, reduceIte, seval, -BitVec.isValue, -BitVec.reduceOfNat, -List.reduceReplicate]
  · have hE0 : msE ls seed = 90 := by rw [msE, if_neg hm]
    rw [hE0]
    simp (maxSteps := 10000000) (disch := omega) only [go_sem, c36, ctRMayL, ctRSets, eq_false hm, decide_false, reduceIte, seval, -BitVec.isValue, -BitVec.reduceOfNat, -List.reduceReplicate]
def ctRMaySeedG : Nat × (List AV → R) := (36, A2 fun (ls : Lvs) (seed : By) => (ls.l.length ≤ 140737488351232, .i (msE ls.l seed)))
theorem ctRMaySeedG_ok {Ct : List (Nat × (List AV → R))} (h : CtOK Tryz.prog Gs Ct) : CtOK Tryz.prog Gs (ctRMaySeedG :: Ct) := CtOK_cons (Row2 fun ls s h => rMaySeedG_fun ls s h) h
theorem rnumber_fun (n : Nat) (hn : n < 1000000) : Fun Tryz.prog Gs 88 [Enc.enc (n : Int)] (Enc.ret (bigL (BitVec.ofNat 64 n) 4)) := by
  have hct := ctRBig_ok (CtOK_nil (P := Tryz.prog) (Gl := Gs))
  have hcv : BitVec.ofInt 64 (n : Int) = BitVec.ofNat 64 n := BitVec.ofInt_natCast 64 n
  refine Fun_cc _ mo Tryz.func88 (by decide) cc88 rs88 Tryz.ntmps88 (by simp) (AW_run hct 1000 ?_)
  simp (maxSteps := 10000000) (disch := omega) only [go_sem, c88, ctRBig, hcv, reduceIte, seval, -BitVec.isValue, -BitVec.reduceOfNat, -List.reduceReplicate]
  try simp
def ctRNumb9 : Nat × (List AV → R) := (88, A1 fun n : Int => (0 ≤ n ∧ n < 1000000, Enc.ret (bigL (BitVec.ofNat 64 n.toNat) 4)))
theorem ctRNumb9_ok {Ct : List (Nat × (List AV → R))} (h : CtOK Tryz.prog Gs Ct) : CtOK Tryz.prog Gs (ctRNumb9 :: Ct) := CtOK_cons (Row1 fun n h => by
  obtain ⟨n, rfl⟩ := Int.eq_ofNat_of_zero_le h.1
  exact rnumber_fun n (by have := h.2; omega)) h
set_option maxHeartbeats 2000000 in
theorem rhPublic_fun (ls : Lvs) (id seed : By) (hid : id.length = 16) (hsd : seed.length ≤ 140737488351232) (h0 : msE ls.l seed = 0) : Fun Tryz.prog Gs 37 [Enc.enc ls, Enc.enc (⟨id⟩ : Ar (BitVec 8)), Enc.enc seed] (Enc.ret (hpubS ls.l id seed)) := by
  obtain ⟨ls⟩ := ls
  simp only at h0 ⊢
  have hit : id.take 16 = id := List.take_of_length_le (by omega)
  obtain ⟨hm, hk⟩ := msE_0 h0 hid
  have h8 := hm.2.1
  have h1 : 0 < ls.length := hm.1
  have h1' : (0 : Int) < ls.length := by omega
  have hat0 := lvc_at' ls 0 h1
  rw [Nat.zero_mul, List.drop_zero] at hat0
  have hvl : (⟨(ls.getD 0 lv0).a, (ls.getD 0 lv0).b⟩ : Level) = ls.getD 0 lv0 := rfl
  have hk0 : kH (l0 ls) id seed = ⟨lmsX (ls.getD 0 lv0).a, otsX (ls.getD 0 lv0).b, id, seed⟩ := rfl
  have hpl := lpubS'_len hk
  have hon := hk.o.n
  have hkn := hk.n
  have hP : hpubS ls id seed = bigL (BitVec.ofNat 64 ls.length) 4 ++ lpubS' (kH (l0 ls) id seed) := rfl
  have hb4 := bigL_len (BitVec.ofNat 64 ls.length) 4
  have hf : [bigL (BitVec.ofNat 64 ls.length) 4, lpubS' (kH (l0 ls) id seed)].flatten = hpubS ls id seed := by rw [hP]; simp
  have hfl : (hpubS ls id seed).length ≤ 140737488351232 := by rw [hP, List.length_append]; omega
  have hl100 : (ls.length : Int) < 1000000 := by omega
  rw [hk0] at hk hpl hf
  obtain ⟨v, hv⟩ : ∃ v, v = ls.getD 0 lv0 := ⟨_, rfl⟩
  rw [← hv] at hk hpl hf hat0 hvl
  have hct := mark_ok 24 (ctRSets_ok (ctRNumb9_ok (ctRPubL_ok (ctJoin_ok (CtOK_nil (P := Tryz.prog) (Gl := Gs))))))
  refine Fun_cc [mark 24, ctRSets, ctRNumb9, ctRPubL, ctJoin] mo Tryz.func37 (by decide) cc37 rs37 Tryz.ntmps37 (by simp) (AW_run hct 1000 ?_)
  simp (maxSteps := 10000000) (disch := omega) only [go_sem, c37, mark, ctRSets, ctRNumb9, ctRPubL, ctJoin, h1, h1', hat0, hvl, hid, hit, hk, hl100, hb4, hf, hfl, hpl, deL_cons, deL_nil, reduceIte, seval, -BitVec.isValue, -BitVec.reduceOfNat, -List.reduceReplicate]
  try simp
def ctRHPub : Nat × (List AV → R) := (37, A3 fun (ls : Lvs) (id : Ar (BitVec 8)) (seed : By) => (id.l.length = 16 ∧ seed.length ≤ 140737488351232 ∧ msE ls.l seed = 0, Enc.ret (hpubS ls.l id.l seed)))
theorem ctRHPub_ok {Ct : List (Nat × (List AV → R))} (h : CtOK Tryz.prog Gs Ct) : CtOK Tryz.prog Gs (ctRHPub :: Ct) := CtOK_cons (Row3 fun ls id s h => rhPublic_fun ls id.l s h.1 h.2.1 h.2.2) h
def ctHPub : Nat × (List AV → R) := (35, A3 fun (ls : Lvs) (id : Ar (BitVec 8)) (seed : By) => (ls.l.length ≤ 140737488351232 ∧ id.l.length = 16 ∧ seed.length ≤ 140737488351232 ∧ hiB ls.l = false, hpubR ls.l id.l seed))
theorem ctHPub_ok {Ct : List (Nat × (List AV → R))} (h : CtOK Tryz.prog Gs Ct) : CtOK Tryz.prog Gs (ctHPub :: Ct) := CtOK_cons (Row3 fun ls id s h => hPublic_fun ls id.l s h.1 h.2.1 h.2.2.1 h.2.2.2) h
set_option maxHeartbeats 4000000 in
theorem HPublics_fun (ls : Lvs) (id seed : By) (hl : ls.l.length ≤ 140737488351232) (hid : id.length = 16) (hsd : seed.length ≤ 140737488351232) : Fun Tryz.prog Gs 5 [Enc.enc ls, Enc.enc (⟨id⟩ : Ar (BitVec 8)), Enc.enc seed] (.b true) := by
  obtain ⟨ls⟩ := ls
  simp only at hl
  have hit : id.take 16 = id := List.take_of_length_le (by omega)
  have hct := ctLive9_ok (ctHigh9_ok (ctHPub_ok (ctRMaySeedG_ok (ctRHPub_ok (ctEqual_ok (CtOK_nil (P := Tryz.prog) (Gl := Gs)))))))
  refine Fun_cc [ctLive9, ctHigh9, ctHPub, ctRMaySeedG, ctRHPub, ctEqual] mo Tryz.func5 (by decide) cc5 rs5 Tryz.ntmps5 (by simp) (AW_run hct 1000 ?_)
  by_cases h1 : (100 : Int) < ls.length
  · simp (maxSteps := 10000000) (disch := omega) only [go_sem, c5, ctLive9, hid, hit, eq_true h1, reduceIte, seval, -BitVec.isValue, -BitVec.reduceOfNat, -List.reduceReplicate]
  cases hH : hiB ls with
  | true =>
    simp (maxSteps := 10000000) (disch := omega) only [go_sem, c5, ctLive9, ctHigh9, hid, hit, hl, eq_false h1, hH, reduceIte, seval, -BitVec.isValue, -BitVec.reduceOfNat, -List.reduceReplicate]
  | false =>
    by_cases h0 : msE ls seed = 0
    · have hP : hpubR ls id seed = .tup [Enc.ret (hpubS ls id seed), .i 0] := by rw [hpubR, if_pos h0]
      simp (maxSteps := 10000000) (disch := omega) only [go_sem, c5, ctLive9, ctHigh9, ctHPub, ctRMaySeedG, ctRHPub, ctEqual, hid, hit, hl, hsd, eq_false h1, hH, h0, hP, reduceIte, seval, -BitVec.isValue, -BitVec.reduceOfNat, -List.reduceReplicate]
      try simp
    · obtain ⟨e, he⟩ : ∃ e, e = msE ls seed := ⟨_, rfl⟩
      have hP : hpubR ls id seed = nilE e := by rw [hpubR, if_neg h0, he]
      rw [← he] at h0
      simp (maxSteps := 10000000) (disch := omega) only [go_sem, c5, ctLive9, ctHigh9, ctHPub, ctRMaySeedG, ctRHPub, ctEqual, hid, hit, hl, hsd, eq_false h1, hH, ← he, eq_false h0, hP, nilE, reduceIte, seval, -BitVec.isValue, -BitVec.reduceOfNat, -List.reduceReplicate]
      try simp
theorem HPublics_f (ls : List Level) (id seed : By) (hl : ls.length ≤ 140737488351232) (hid : id.length = 16) (hsd : seed.length ≤ 140737488351232) : Fun Tryz.prog Gs 5 [.ros false ls.length (lvc ls), Enc.enc (⟨id⟩ : Ar (BitVec 8)), Enc.enc seed] (.b true) := HPublics_fun ⟨ls⟩ id seed hl hid hsd
end Go.Lv
