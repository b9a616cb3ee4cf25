/- A part of the proof (GR). -/
import Derived.Test.YtjehnljbhmjgoaaGreatDoorGP
import Derived.Test.YtjehnljbhmjgoaaGreatDoorGK
set_option linter.all false
namespace Go.Lv
open Go Go.Proofs
set_option linter.unusedSimpArgs false
set_option maxRecDepth 100000
def pcL (n : Nat) : Nat := n % 2 + n / 2 % 2 + n / 4 % 2 + n / 8 % 2 + n / 16 % 2
theorem lsk_pc : ∀ n < 17, (lsk n 0).length = pcL n := by decide +kernel
theorem ones_fun (n : Nat) (hn : n < 17) : Fun Tryz.prog Gs 71 [.u64 (BitVec.ofNat 64 n)] (.i (pcL n : Nat)) := by
  rcases (show n = 0 ∨ n = 1 ∨ n = 2 ∨ n = 3 ∨ n = 4 ∨ n = 5 ∨ n = 6 ∨ n = 7 ∨ n = 8 ∨ n = 9 ∨ n = 10 ∨ n = 11 ∨ n = 12 ∨ n = 13 ∨ n = 14 ∨ n = 15 ∨ n = 16 by omega) with rfl | rfl | rfl | rfl | rfl | rfl | rfl | rfl | rfl | rfl | rfl | rfl | rfl | rfl | rfl | rfl | rfl
  all_goals
    refine Fun_cc [] mo Tryz.func71 (by decide) cc71 rs71 Tryz.ntmps71 (by simp) (AW_run CtOK_nil 1000 ?_)
    simp (maxSteps := 10000000) (disch := omega) only [go_sem, c71, pcL, reduceIte, seval, -BitVec.isValue, -BitVec.reduceOfNat, -List.reduceReplicate]
set_option maxHeartbeats 4000000 in
theorem lnew_funG (k : LK) (hi : k.id.length = 16) (hsd : k.sd.length ≤ 140737488351232) (h : mdE k.l k.o k.sd = 0) : FunG Tryz.prog Gs 61 [Enc.enc k.l, Enc.enc k.o, Enc.enc (⟨k.id⟩ : Ar (BitVec 8)), Enc.enc k.sd] [] (.tup [.ptr 4 0, .i 0]) [(4, ⟨ltC k .nils 0, true⟩)] := by
  have hit : k.id.take 16 = k.id := List.take_of_length_le (by omega)
  have hK : mdK k.l k.o k.id k.sd = .agg (lkR k) := by rw [mdK, if_pos h]
  have hct := ctMade_ok (CtOK_nil (P := Tryz.prog) (Gl := Gs))
  refine FunG_cc [ctMade] [] 0 mo Tryz.func61 (by decide) cc61 rs61 Tryz.ntmps61 (by simp) rfl (by decide) rfl ?_
  refine AW_run hct 21 ?_
  simp (maxSteps := 10000000) (disch := omega) only [go_sem, c61, ctMade, hK, lkR, h, hi, hit, hsd, reduceIte, seval, -BitVec.isValue, -BitVec.reduceOfNat, -List.reduceReplicate]
  refine AW_uf 99 [23] ?_
  refine AW_ct [] (AW_run (CtOK_nil (P := Tryz.prog) (Gl := Gs)) 1000 ?_)
  simp (maxSteps := 10000000) (disch := omega) only [go_sem, ufF, ufH, ltC, lkR, hi, hit, reduceIte, seval, -BitVec.isValue, -BitVec.reduceOfNat, -List.reduceReplicate]
  try simp
theorem lnew_err (k : LK) (hi : k.id.length = 16) (hsd : k.sd.length ≤ 140737488351232) (h : ¬ mdE k.l k.o k.sd = 0) : Fun Tryz.prog Gs 61 [Enc.enc k.l, Enc.enc k.o, Enc.enc (⟨k.id⟩ : Ar (BitVec 8)), Enc.enc k.sd] (.tup [.nilp, .i (mdE k.l k.o k.sd)]) := by
  have hit : k.id.take 16 = k.id := List.take_of_length_le (by omega)
  have hK : mdK k.l k.o k.id k.sd = .agg zk := by rw [mdK, if_neg h]
  obtain ⟨e, he⟩ : ∃ e, e = mdE k.l k.o k.sd := ⟨_, rfl⟩
  rw [← he] at h ⊢
  have hct := ctMade_ok (CtOK_nil (P := Tryz.prog) (Gl := Gs))
  refine Fun_cc _ mo Tryz.func61 (by decide) cc61 rs61 Tryz.ntmps61 (by simp) (AW_run hct 1000 ?_)
  simp (maxSteps := 10000000) (disch := omega) only [go_sem, c61, ctMade, hK, zk, ← he, eq_false h, hi, hit, hsd, reduceIte, seval, -BitVec.isValue, -BitVec.reduceOfNat, -List.reduceReplicate]
  try simp
theorem pcL_le : ∀ H < 5, ∀ n < 2 ^ H + 1, pcL n ≤ H + 1 := by decide +kernel
def σlf (k : LK) (n : Nat) : St :=
  ⟨[(1, .ptr 0 0), (3, .ptr 1 0)], [(0, ⟨lkC k, true⟩), (1, ⟨ltC k (.sl 2 0 (lsk n 0).length 3) n, true⟩), (2, ⟨lsC k (lsk n 0), false⟩)], 3⟩
set_option maxHeartbeats 8000000 in
theorem LmFew_fun (k : LK) (hi : k.id.length = 16) (hsd : k.sd.length ≤ 140737488351232) : Fun Tryz.prog Gs 12 [.agg (lkC k)] (.b true) := by
  have hit : k.id.take 16 = k.id := List.take_of_length_le (by omega)
  have hn0 := CtOK_nil (P := Tryz.prog) (Gl := Gs)
  cases hF : fewB k with
  | false =>
    have hct := ctLlive_ok (ctFewK_ok hi hn0)
    refine Fun_cc _ mo Tryz.func12 (by decide) cc12 rs12 Tryz.ntmps12 (by simp) (AW_run hct 1000 ?_)
    simp (maxSteps := 10000000) (disch := omega) only [go_sem, c12, ctLlive, ct1, lkC, hi, hit, hF, reduceIte, seval, -BitVec.isValue, -BitVec.reduceOfNat, -List.reduceReplicate]
  | true =>
    by_cases h0 : mdE k.l k.o k.sd = 0
    · have hk : LKok k := mdE_ok h0 hi
      have hH := few_H' hF h0
      have hid := hk.i
      have hf := hk.kf
      have hs := hk.sm
      have hnw := lnew_funG k hi hsd h0
      have hgr := fun n hn => ladd_funG k n hk hH hn
      have hfull := laddV_all k hk hH
      have htop := ltopV_all k hk hH
      have hp1 := pw_one k.l.h.toNat
      have hp1' : (1#64) <<< k.l.h.toNat = pw k.l.h.toNat := hp1
      have hlt := fun n hn => pw_lt (n := n) hH hn
      have hle := pcL_le k.l.h.toNat (by omega)
      have hpw : BitVec.ofNat 64 (2 ^ k.l.h.toNat) = pw k.l.h.toNat := rfl
      have hR : rootR k.l k.o k.id k.sd = .tup [Enc.ret (lroot k), .i 0] := by rw [rootR, if_pos h0]
      have hfI : k.l.h ≤ 4 := by omega
      obtain ⟨P, hP⟩ : ∃ P, P = 2 ^ k.l.h.toNat := ⟨_, rfl⟩
      have hP16 : P ≤ 16 := by rw [hP]; exact Nat.pow_le_pow_right (n := 2) (by omega) hH
      rw [← hP] at hgr hlt hfull htop hle hpw
      have hct := ctLlive_ok (ctFewK_ok hi hn0)
      refine Fun_cc [ctLlive, ct1 41 [.agg (lkC k)] (.b (fewB k))] mo Tryz.func12 (by decide) cc12 rs12 Tryz.ntmps12 (by simp) (AW_run hct 1000 ?_)
      simp (maxSteps := 10000000) (disch := omega) only [go_sem, c12, ctLlive, ct1, lkC, hi, hit, hF, reduceIte, seval, -BitVec.isValue, -BitVec.reduceOfNat, -List.reduceReplicate]
      refine AW_callGd [] [(4, 1)] 2 [] false [] [] (by simp only [go_sem, reduceIte, seval, -BitVec.isValue, -BitVec.reduceOfNat, -List.reduceReplicate]) (by simp only [go_sem, reduceIte, seval, -BitVec.isValue, -BitVec.reduceOfNat, -List.reduceReplicate]) hnw (by rfl) (.inr rfl) (by simp only [go_sem, reduceIte, seval, -BitVec.isValue, -BitVec.reduceOfNat, -List.reduceReplicate]) (by rfl) (by simp only [go_sem, hi, hit, reduceIte, seval, -BitVec.isValue, -BitVec.reduceOfNat, -List.reduceReplicate]; try simp) (by simp only [go_sem, reduceIte, seval, -BitVec.isValue, -BitVec.reduceOfNat, -List.reduceReplicate]) (by simp only [go_sem, reduceIte, seval, -BitVec.isValue, -BitVec.reduceOfNat, -List.reduceReplicate]) (by simp only [go_sem, ltC, reduceIte, seval, -BitVec.isValue, -BitVec.reduceOfNat, -List.reduceReplicate]) ?_
      refine AW_ct [] (AW_run hn0 1000 ?_)
      simp (maxSteps := 10000000) (disch := omega) only [go_sem, ltC, reduceIte, seval, -BitVec.isValue, -BitVec.reduceOfNat, -List.reduceReplicate]
      refine AW_nulC 1 27 3 (seg := ⟨ltC k .nils 0, true⟩) (by simp only [go_sem, ltC, reduceIte, seval, -BitVec.isValue, -BitVec.reduceOfNat, -List.reduceReplicate]; try simp) (by simp [ltC, List.getElem?_append, hid]) (by simp only; omega) ?_
      refine AW_loop (σlf k) (fun n => n ≤ P) (fun n => P - n) 0 (Nat.zero_le _) (Wk_p [] ?_) fun n hn => ?_
      · simp (maxSteps := 10000000) (disch := omega) only [go_sem, σlf, mapH, ltC, lkC, hid, lsk_zero, List.set_cons_zero, List.set_cons_succ, reduceIte, seval, -BitVec.isValue, -BitVec.reduceOfNat, -List.reduceReplicate]
        simp [lsC, id_set, hid]
      · have hsl := lsC_len k (lsk n 0)
        have hstl : (lsC k (lsk n 0)).take ((lsk n 0).length * 3) = lsC k (lsk n 0) := List.take_of_length_le (by rw [lsC_len]; omega)
        by_cases hc : n < P
        · refine AW_ct [] (AW_run hn0 1000 ?_)
          simp (maxSteps := 10000000) (disch := omega) only [go_sem, σlf, reduceIte, seval, -BitVec.isValue, -BitVec.reduceOfNat, -List.reduceReplicate]
          refine AW_callGd [(0, 1), (1, 2)] [(4, 3)] 4 [] false [] [] (by simp only [go_sem, reduceIte, seval, -BitVec.isValue, -BitVec.reduceOfNat, -List.reduceReplicate]) (by simp only [go_sem, reduceIte, seval, -BitVec.isValue, -BitVec.reduceOfNat, -List.reduceReplicate]) (hgr n hc) (by rfl) (.inr rfl) (by simp only [go_sem, reduceIte, seval, -BitVec.isValue, -BitVec.reduceOfNat, -List.reduceReplicate]) (by rfl) (by simp only [go_sem, reduceIte, seval, -BitVec.isValue, -BitVec.reduceOfNat, -List.reduceReplicate]; try simp) (by simp only [go_sem, ltC, reduceIte, seval, -BitVec.isValue, -BitVec.reduceOfNat, -List.reduceReplicate]; try simp) (by simp only [go_sem, reduceIte, seval, -BitVec.isValue, -BitVec.reduceOfNat, -List.reduceReplicate]) (by simp only [go_sem, ltC, reduceIte, seval, -BitVec.isValue, -BitVec.reduceOfNat, -List.reduceReplicate]) ?_
          have hpc := lsk_pc (n + 1) (by omega)
          have hsl1 := lsC_len k (lsk (n + 1) 0)
          have hstl1 : (lsC k (lsk (n + 1) 0)).take ((lsk (n + 1) 0).length * 3) = lsC k (lsk (n + 1) 0) := List.take_of_length_le (by rw [lsC_len]; omega)
          have hpcI : (((lsk (n + 1) 0).length : Nat) : Int) = ((pcL (n + 1) : Nat) : Int) := by omega
          have hl := hle (n + 1) (by omega)
          have hl' : ¬ k.l.h + 1 < ((pcL (n + 1) : Nat) : Int) := by omega
          have hng : ¬ pw k.l.h.toNat < BitVec.ofNat 64 (n + 1) := by
            rw [← hpw, BitVec.lt_def, BitVec.toNat_ofNat, BitVec.toNat_ofNat]; omega
          have hct3 := ct1_ok (lheldV_fun k (lsk (n + 1) 0) (n + 1) hk) (ct1_ok (lcountV_fun k (lsk (n + 1) 0) (n + 1) hk) (ct1_ok (ones_fun (n + 1) (by omega)) hn0))
          refine AW_ct _ (AW_run hct3 1000 ?_)
          simp (maxSteps := 10000000) (disch := omega) only [go_sem, ct1, ltV, ltC, lkC, hid, hstl1, hpcI, hs.1, hp1, hp1', eq_false hl', eq_false hng, reduceIte, seval, -BitVec.isValue, -BitVec.reduceOfNat, -List.reduceReplicate]
          refine ⟨n + 1, by omega, Wk_p [(2, 3)] ?_, by omega⟩
          simp only [go_sem, σlf, ltC, lkC, reduceIte, seval, -BitVec.isValue, -BitVec.reduceOfNat, -List.reduceReplicate]
          try simp
        · have hge : n = P := by omega
          subst hge
          have hct4 := ct1_ok hfull (ct1_ok htop (ct1_ok (lcountV_fun k (lsk n 0) n hk) (ctLRoot_ok (ctEqual_ok hn0))))
          have hrl := lroot_len hk
          refine AW_ct _ (AW_run hct4 1000 ?_)
          simp (maxSteps := 10000000) (disch := omega) only [go_sem, σlf, ct1, ctLRoot, ctEqual, ltV, ltC, lkC, hid, hit, hi, hsd, h0, hH, hfI, hstl, hs.1, hp1, hp1', hpw, hR, hrl, reduceIte, seval, -BitVec.isValue, -BitVec.reduceOfNat, -List.reduceReplicate]
          try simp
    · have hnw := lnew_err k hi hsd h0
      have hct := ctLlive_ok (ctFewK_ok hi (ct1_ok hnw hn0))
      obtain ⟨e, he⟩ : ∃ e, e = mdE k.l k.o k.sd := ⟨_, rfl⟩
      rw [← he] at h0
      refine Fun_cc _ mo Tryz.func12 (by decide) cc12 rs12 Tryz.ntmps12 (by simp) (AW_run hct 1000 ?_)
      simp (maxSteps := 10000000) (disch := omega) only [go_sem, c12, ctLlive, ct1, lkC, hi, hit, hF, ← he, eq_false h0, reduceIte, seval, -BitVec.isValue, -BitVec.reduceOfNat, -List.reduceReplicate]
      try simp
end Go.Lv
