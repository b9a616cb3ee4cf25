/- A part of the proof. -/
import Derived.Test.YtjehnljbhmjgoaaGreatDoorIn
import Derived.Test.YtjehnljbhmjgoaaGreatDoorHy
import Derived.Test.YtjehnljbhmjgoaaGreatDoorGK
set_option linter.all false
namespace Go.Lv
open Go Go.Proofs
set_option linter.unusedSimpArgs false
set_option maxRecDepth 100000
set_option maxHeartbeats 4000000 in
theorem xnew_funG (x : Xms) (k : XKey) (hk : k.ok) (h : mkE x k = 0) : FunG Tryz.prog Gs 19 [Enc.enc x, Enc.enc k] [] (.tup [.ptr 5 0, .i 0]) [(5, ⟨trC x k .nils 0, true⟩)] := by
  have hK := mkE_zero h
  have hn := hK.n
  have h1 := hK.s
  have h2 := hK.p
  have h3 := hK.b
  have f1 : [k.seed].flatten = k.seed := by simp
  have f2 : [k.prf].flatten = k.prf := by simp
  have f3 : [k.pub].flatten = k.pub := by simp
  have hct := mark_ok 16 (mark_ok 20 (mark_ok 24 (ctMayKey_ok (ctOJoin_ok (CtOK_nil (P := Tryz.prog) (Gl := Gs))))))
  refine FunG_cc [mark 16, mark 20, mark 24, mkA 80, ctOJoin] [] 0 mo Tryz.func19 (by decide) cc19 rs19 Tryz.ntmps19 (by simp) rfl (by decide) rfl ?_
  refine AW_run hct 12 ?_
  simp (maxSteps := 10000000) (disch := omega) only [go_sem, c19, mark, mkA, xmC, hk, h, reduceIte, seval, -BitVec.isValue, -BitVec.reduceOfNat, -List.reduceReplicate]
  refine AW_ct [mark 16, mark 20, mark 24, mkA 80, ctOJoin] (AW_drx hct [(1, ⟨[Enc.enc k.seed, Enc.enc k.prf, Enc.enc k.pub], true⟩), (0, ⟨xmC x, true⟩)] (by rfl) (by simp only [go_sem, xmC, reduceIte, seval, -BitVec.isValue, -BitVec.reduceOfNat, -List.reduceReplicate]) ?_)
  simp (maxSteps := 10000000) (disch := omega) only [go_sem, mark, mkA, ctOJoin, xmC, Nat.beq_refl, beq_self_eq_true, f1, f2, f3, deL_cons, deL_nil, reduceIte, seval, -BitVec.isValue, -BitVec.reduceOfNat, -List.reduceReplicate]
  refine ⟨fun _ => trivial, fun _ => trivial, fun _ => trivial, ?_⟩
  refine AW_uf 99 [26] ?_
  refine AW_ct [] (AW_run (CtOK_nil (P := Tryz.prog) (Gl := Gs)) 1000 ?_)
  simp (maxSteps := 10000000) (disch := omega) only [go_sem, ufF, ufH, trC, xmC, reduceIte, seval, -BitVec.isValue, -BitVec.reduceOfNat, -List.reduceReplicate]
  try simp
theorem xnew_err (x : Xms) (k : XKey) (hk : k.ok) (h : ¬ mkE x k = 0) : Fun Tryz.prog Gs 19 [Enc.enc x, Enc.enc k] (.tup [.nilp, .i (mkE x k)]) := by
  obtain ⟨e, he⟩ : ∃ e, e = mkE x k := ⟨_, rfl⟩
  rw [← he] at h ⊢
  have hct := ctMayKey_ok (CtOK_nil (P := Tryz.prog) (Gl := Gs))
  refine Fun_cc _ mo Tryz.func19 (by decide) cc19 rs19 Tryz.ntmps19 (by simp) (AW_run hct 1000 ?_)
  simp (maxSteps := 10000000) (disch := omega) only [go_sem, c19, mkA, xmC, hk, ← he, eq_false h, reduceIte, seval, -BitVec.isValue, -BitVec.reduceOfNat, -List.reduceReplicate]
  try simp
def pc (n : Nat) : Nat := n % 2 + n / 2 % 2 + n / 4 % 2 + n / 8 % 2 + n / 16 % 2
theorem stk_pc : ∀ n < 17, (stk n 0).length = pc n := by decide +kernel
theorem stk_le : ∀ H < 5, ∀ n < 2 ^ H, (stk n 0).length ≤ H + 1 := by decide +kernel
theorem pc_step (m : Nat) (h : m < 32) : pc m = m % 2 + pc (m / 2) := by unfold pc; omega
def σbt (p : Nat × Nat) : St := ⟨[(0, .i p.1), (3, .i p.2)], [], 0⟩
theorem xbits_fun (n : Nat) (hn : n < 32) : Fun Tryz.prog Gs 24 [.i n] (.i (pc n)) := by
  have hn0 := CtOK_nil (P := Tryz.prog) (Gl := Gs)
  refine Fun_cc [] mo Tryz.func24 (by decide) cc24 rs24 Tryz.ntmps24 (by simp) (AW_run hn0 1000 ?_)
  simp (maxSteps := 10000000) (disch := omega) only [go_sem, c24, reduceIte, seval, -BitVec.isValue, -BitVec.reduceOfNat, -List.reduceReplicate]
  refine AW_loop σbt (fun p => p.1 < 32 ∧ p.2 + pc p.1 = pc n ∧ p.2 ≤ 5) (fun p => p.1) (n, 0) ⟨hn, by simp, by simp⟩ (Wk_p [] ?_) fun p hp => ?_
  · simp only [go_sem, σbt, reduceIte, seval, -BitVec.isValue, -BitVec.reduceOfNat, -List.reduceReplicate]
    try simp
  · obtain ⟨m, c⟩ := p
    obtain ⟨h1, h2, h5⟩ := hp
    simp only at h1 h2 h5
    have hs := pc_step m h1
    have hpl : pc n ≤ 5 := by unfold pc; omega
    by_cases hc : 0 < m
    · have hc' : (0 : Int) < (m : Int) := by omega
      have e1 : (m : Int) % 2 = ((m % 2 : Nat) : Int) := by omega
      have e2 : (m : Int) / 2 = ((m / 2 : Nat) : Int) := by omega
      have e3 : (c : Int) + ((m % 2 : Nat) : Int) = ((c + m % 2 : Nat) : Int) := by omega
      refine AW_ct [] (AW_run hn0 1000 ?_)
      simp (maxSteps := 10000000) (disch := omega) only [go_sem, σbt, eq_true hc', Int.tmod_eq_emod_of_nonneg, Int.tdiv_eq_ediv_of_nonneg, e1, e2, e3, reduceIte, seval, -BitVec.isValue, -BitVec.reduceOfNat, -List.reduceReplicate]
      refine ⟨(m / 2, c + m % 2), ⟨by simp only; omega, by simp only; omega, by simp only; omega⟩, Wk_p [] ?_, by simp only; omega⟩
      simp only [go_sem, σbt, reduceIte, seval, -BitVec.isValue, -BitVec.reduceOfNat, -List.reduceReplicate]
      try simp
      try omega
    · have hm0 : m = 0 := by omega
      subst hm0
      have hpz : pc 0 = 0 := rfl
      have hcn : c = pc n := by omega
      subst hcn
      refine AW_ct [] (AW_run hn0 1000 ?_)
      simp (maxSteps := 10000000) (disch := omega) only [go_sem, σbt, reduceIte, seval, -BitVec.isValue, -BitVec.reduceOfNat, -List.reduceReplicate]
      try simp
def σlg (x : Xms) (k : XKey) (P n : Nat) : St :=
  ⟨[(3, .ptr 0 0), (5, .ptr 1 0), (6, .ptr 2 0), (52, .i P), (53, .i n)], [(0, ⟨[Enc.enc k.seed, Enc.enc k.prf, Enc.enc k.pub], true⟩), (1, ⟨xmC x, true⟩), (2, ⟨trC x k (.sl 3 0 (stk n 0).length 3) n, true⟩), (3, ⟨stC x k (stk n 0), false⟩)], 4⟩
set_option maxHeartbeats 8000000 in
theorem XGrows_fun (c : BitVec 32) (k : XKey) (hk : k.ok) : Fun Tryz.prog Gs 3 [Enc.enc c, Enc.enc k] (.b true) := by
  obtain ⟨x, hxe⟩ : ∃ x, x = setX c := ⟨_, rfl⟩
  have hn0 := CtOK_nil (P := Tryz.prog) (Gl := Gs)
  by_cases hb : highB x = true
  · have hct := ctXSetL_ok (ctXlive_ok (ctHigh_ok hn0))
    refine Fun_cc _ mo Tryz.func3 (by decide) cc3 rs3 Tryz.ntmps3 (by simp) (AW_run hct 1000 ?_)
    simp (maxSteps := 10000000) (disch := omega) only [go_sem, c3, ctXSetL, ctXlive, ctHigh, ← hxe, xmC, hb, reduceIte, seval, -BitVec.isValue, -BitVec.reduceOfNat, -List.reduceReplicate]
    try simp
  · have hb' : highB x = false := Bool.eq_false_iff.2 hb
    have hlow := low_of (k := k) hb'
    by_cases hmk : mkE x k = 0
    · have hK := mkE_zero hmk
      have hh := hlow hmk
      have hH := xms_h hK.ok
      have hnw := xnew_funG x k hk hmk
      have h1s := one2 hK
      have hcv : (BitVec.ofInt 64 x.h).toNat = x.h.toNat := by
        rw [show x.h = ((x.h.toNat : Nat) : Int) by omega, BitVec.ofInt_natCast, BitVec.toNat_ofNat]
        omega
      have hra := xrootV_all x k hK hh
      have hrs := fun n hn => xrootV_st x k n hK hh hn
      have hgr := fun n hn => xadd_funG x k n hK hh hn
      have hfull := xaddV_all x k hK hh
      have hsa := stk_all x.h.toNat (by omega)
      have hle := stk_le x.h.toNat (by omega)
      obtain ⟨P, hP⟩ : ∃ P, P = 2 ^ x.h.toNat := ⟨_, rfl⟩
      have hP16 : P ≤ 16 := by rw [hP]; exact Nat.pow_le_pow_right (n := 2) (by omega) hh
      rw [← hP] at h1s hra hrs hgr hfull hsa hle
      have hR : xrtR x k = .tup [Enc.enc (rootS x k), .i 0] := by rw [xrtR, if_pos hmk]
      have hct := ctXSetL_ok (ctXlive_ok (ctHigh_ok hn0))
      have hsz : stC x k (stk 0 0) = [] := by rw [stk_zero]; rfl
      have hlz : (stk 0 0).length = 0 := by rw [stk_zero]; rfl
      refine Fun_cc [ctXSetL, ctXlive, ctHigh] mo Tryz.func3 (by decide) cc3 rs3 Tryz.ntmps3 (by simp) (AW_run hct 1000 ?_)
      simp (maxSteps := 10000000) (disch := omega) only [go_sem, c3, ctXSetL, ctXlive, ctHigh, ← hxe, xmC, hb', reduceIte, seval, -BitVec.isValue, -BitVec.reduceOfNat, -List.reduceReplicate]
      refine AW_callGd [] [(5, 2)] 3 [] false [] [] (by simp only [go_sem, reduceIte, seval, -BitVec.isValue, -BitVec.reduceOfNat, -List.reduceReplicate]) (by simp only [go_sem, reduceIte, seval, -BitVec.isValue, -BitVec.reduceOfNat, -List.reduceReplicate]) hnw (by rfl) (.inr rfl) (by simp only [go_sem, reduceIte, seval, -BitVec.isValue, -BitVec.reduceOfNat, -List.reduceReplicate]) (by rfl) (by simp only [go_sem, reduceIte, seval, -BitVec.isValue, -BitVec.reduceOfNat, -List.reduceReplicate]; try simp) (by simp only [go_sem, reduceIte, seval, -BitVec.isValue, -BitVec.reduceOfNat, -List.reduceReplicate]) (by simp only [go_sem, reduceIte, seval, -BitVec.isValue, -BitVec.reduceOfNat, -List.reduceReplicate]) (by simp only [go_sem, trC, reduceIte, seval, -BitVec.isValue, -BitVec.reduceOfNat, -List.reduceReplicate]) ?_
      have hct2 := ctRMayKey_ok hn0
      refine AW_ct [mkA 20] (AW_run hct2 1000 ?_)
      simp (maxSteps := 10000000) (disch := omega) only [go_sem, trC, mkA, xmC, hk, hmk, hcv, h1s, reduceIte, seval, -BitVec.isValue, -BitVec.reduceOfNat, -List.reduceReplicate]
      refine AW_nulC 2 8 3 (seg := ⟨trC x k .nils 0, true⟩) (by simp only [go_sem, trC, reduceIte, seval, -BitVec.isValue, -BitVec.reduceOfNat, -List.reduceReplicate]) (by rfl) (by simp only; omega) ?_
      refine AW_loop (σlg x k P) (fun n => n ≤ P) (fun n => P - n) 0 (Nat.zero_le _) (Wk_p [] ?_) fun n hn => ?_
      · simp only [go_sem, σlg, mapH, trC, xmC, hsz, hlz, List.set_cons_zero, List.set_cons_succ, reduceIte, seval, -BitVec.isValue, -BitVec.reduceOfNat, -List.reduceReplicate]
        try simp
      · have hstl : (stC x k (stk n 0)).take ((stk n 0).length * 3) = stC x k (stk n 0) := List.take_of_length_le (by rw [stC_len]; omega)
        by_cases hc : n < P
        · have hc' : (n : Int) < (P : Int) := by omega
          have hpc := stk_pc n (by omega)
          have hstl2 : (stC x k (stk n 0)).take (pc n * 3) = stC x k (stk n 0) := by rw [← hpc]; exact hstl
          have hpc' : (((stk n 0).length : Nat) : Int) = ((pc n : Nat) : Int) := by omega
          have hl := hle n hc
          have hl' : ¬ x.h + 1 < ((pc n : Nat) : Int) := by omega
          have hpcl : pc n ≤ 5 := by unfold pc; omega
          have hct3 := ct1_ok (hrs n hc) (ct1_ok (xleavesV_fun x k (stk n 0) n hK) (ct1_ok (xheldV_fun x k (stk n 0) n hK) (ct1_ok (xbits_fun n (by omega)) hn0)))
          refine AW_ct _ (AW_run hct3 1000 ?_)
          simp (maxSteps := 10000000) (disch := omega) only [go_sem, σlg, xmC, ct1, trV, trC, eq_true hc', hstl, hstl2, hpc, eq_false hl', reduceIte, seval, -BitVec.isValue, -BitVec.reduceOfNat, -List.reduceReplicate]
          refine AW_callGd [(0, 2), (1, 3)] [(2, 4)] 5 [] false [] [] (by simp only [go_sem, reduceIte, seval, -BitVec.isValue, -BitVec.reduceOfNat, -List.reduceReplicate]) (by simp only [go_sem, reduceIte, seval, -BitVec.isValue, -BitVec.reduceOfNat, -List.reduceReplicate]) (hgr n hc) (by rfl) (.inr rfl) (by simp only [go_sem, reduceIte, seval, -BitVec.isValue, -BitVec.reduceOfNat, -List.reduceReplicate]) (by rfl) (by simp only [go_sem, reduceIte, seval, -BitVec.isValue, -BitVec.reduceOfNat, -List.reduceReplicate]; try simp) (by simp only [go_sem, trC, hpc, reduceIte, seval, -BitVec.isValue, -BitVec.reduceOfNat, -List.reduceReplicate]; try simp) (by simp only [go_sem, reduceIte, seval, -BitVec.isValue, -BitVec.reduceOfNat, -List.reduceReplicate]) (by simp only [go_sem, trC, reduceIte, seval, -BitVec.isValue, -BitVec.reduceOfNat, -List.reduceReplicate]) ?_
          refine AW_ct [] (AW_run hn0 1000 ?_)
          simp (maxSteps := 10000000) (disch := omega) only [go_sem, trC, xmC, reduceIte, seval, -BitVec.isValue, -BitVec.reduceOfNat, -List.reduceReplicate]
          refine ⟨n + 1, by omega, Wk_p [(3, 4)] ?_, by omega⟩
          simp only [go_sem, σlg, trC, xmC, reduceIte, seval, -BitVec.isValue, -BitVec.reduceOfNat, -List.reduceReplicate]
          try simp
        · have hnP : n = P := by omega
          subst hnP
          have hsl : (stk n 0).length = 1 := by rw [hsa]; rfl
          have hrtl := rootS_len hK
          have hst : stC x k (stk n 0) = [.i x.h.toNat, .u32 (BitVec.ofNat 32 0), Enc.enc (rootS x k)] := by rw [hsa]; rfl
          have hct4 := ct1_ok hra (ct1_ok (xleavesV_fun x k (stk n 0) n hK) (ct1_ok (xheldV_fun x k (stk n 0) n hK) (ct1_ok hfull (ctXRoot_ok (ctEqual_ok hn0)))))
          refine AW_ct _ (AW_run hct4 1000 ?_)
          simp (maxSteps := 10000000) (disch := omega) only [go_sem, σlg, xmC, ct1, trV, trC, ctXRoot, ctEqual, hst, hsl, hk, hR, hlow, hh, hcv, h1s, reduceIte, seval, -BitVec.isValue, -BitVec.reduceOfNat, -List.reduceReplicate]
          try simp
    · have hct := ctXSetL_ok (ctXlive_ok (ctHigh_ok (ct1_ok (xnew_err x k hk hmk) (ctRMayKey_ok hn0))))
      obtain ⟨e, he⟩ : ∃ e, e = mkE x k := ⟨_, rfl⟩
      refine Fun_cc _ mo Tryz.func3 (by decide) cc3 rs3 Tryz.ntmps3 (by simp) (AW_run hct 1000 ?_)
      rw [← he] at hmk
      simp (maxSteps := 10000000) (disch := omega) only [go_sem, c3, ctXSetL, ctXlive, ctHigh, ct1, mkA, ← hxe, xmC, hk, hb', ← he, eq_false hmk, reduceIte, seval, -BitVec.isValue, -BitVec.reduceOfNat, -List.reduceReplicate]
      try simp
end Go.Lv
