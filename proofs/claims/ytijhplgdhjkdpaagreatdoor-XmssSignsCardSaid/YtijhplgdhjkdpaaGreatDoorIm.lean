/- A part of the proof. -/
import Derived.Test.YtijhplgdhjkdpaaGreatDoorIl
import Derived.Test.YtijhplgdhjkdpaaGreatDoorGK
set_option linter.all false
namespace Go.Lv
open Go Go.Proofs
set_option linter.unusedSimpArgs false
set_option maxRecDepth 100000

/-! ## Laws: trees, signatures -/
set_option maxHeartbeats 8000000 in
theorem XTrees_fun (c : BitVec 32) (k : XKey) (i : BitVec 32) (hk : k.ok) :
    Fun Tryz.prog Gs 5 [Enc.enc c, Enc.enc k, Enc.enc i] (.b true) := by
  obtain ⟨x, hxe⟩ : ∃ x, x = setX c := ⟨_, rfl⟩
  by_cases hb : highB x = true
  · have hct := ctXSetL_ok (ctXlive_ok (ctHigh_ok (CtOK_nil (P := Tryz.prog) (Gl := Gs))))
    refine Fun_cc _ mo Tryz.func5 (by decide) cc5 rs5 Tryz.ntmps5 (by simp) (AW_run hct 1000 ?_)
    simp (maxSteps := 10000000) (disch := omega) only [go_sem, c5, ctXSetL, ctXlive, ctHigh, ← hxe, xmC, hb, reduceIte, seval, -BitVec.isValue, -BitVec.reduceOfNat, -List.reduceReplicate]
    try simp
  · have hb' : highB x = false := Bool.eq_false_iff.2 hb
    have hlow := low_of (k := k) hb'
    by_cases hmk : mkE x k = 0
    · have hK := mkE_zero hmk
      have hh := hlow hmk
      have hR : xrtR x k = .tup [Enc.enc (rootS x k), .i 0] := by rw [xrtR, if_pos hmk]
      have hP : xpuR x k = .tup [Enc.ret (pubXS x k), .i 0] := by rw [xpuR, if_pos hmk]
      have hsl := rowsS_len x k (x.h.toNat + 1)
      by_cases h : mlE x k i = 0
      · obtain ⟨_, hlt⟩ := mlE_lt h
        have hii : BitVec.ofNat 32 i.toNat = i := by simp
        have hpa : xpaR x k i = .tup [Enc.ret (pathS x k.seed k.pub i.toNat), .i 0] := by rw [xpaR, if_pos h]
        have hct := ctXSetL_ok (ctXlive_ok (ctHigh_ok (ctXRoot_ok (ctXPath_ok (ctXPublic_ok (ctRMayKey_ok (ctRRows_ok (ctRRoot1_ok (x := x) (k := k) hK hh (ctRPub1_ok (x := x) (k := k) hK hh (ctRMayLeaf_ok (ctRPath1_ok (x := x) (k := k) (i := i.toNat) hK hh hlt (ctEqual_ok (CtOK_nil (P := Tryz.prog) (Gl := Gs))))))))))))))
        refine Fun_cc _ mo Tryz.func5 (by decide) cc5 rs5 Tryz.ntmps5 (by simp) (AW_run hct 1000 ?_)
        simp (maxSteps := 10000000) (disch := omega) only [go_sem, c5, ctXSetL, ctXlive, ctHigh, ctXRoot, ctXPath, ctXPublic, mkA, ctRRows, ctRRoot1, ctRPub1, mlA, ctRPath1, ctEqual, ← hxe, xmC, hk, hb', hmk, h, hK, hh, hlow, hR, hP, hpa, hsl, hii, reduceIte, seval, -BitVec.isValue, -BitVec.reduceOfNat, -List.reduceReplicate]
        try simp
      · have hge := mlE_ge (i := i) hmk
        have h1 : mlE x k i = 1 := by
          rw [hge] at h ⊢
          split
          · rfl
          · rename_i q; rw [if_neg q] at h; exact absurd rfl h
        have hpa : xpaR x k i = .tup [.ros true 0 [], .i 1] := by rw [xpaR, if_neg h, h1]
        have hct := ctXSetL_ok (ctXlive_ok (ctHigh_ok (ctXRoot_ok (ctXPath_ok (ctXPublic_ok (ctRMayKey_ok (ctRRows_ok (ctRRoot1_ok (x := x) (k := k) hK hh (ctRPub1_ok (x := x) (k := k) hK hh (ctRMayLeaf_ok (ctEqual_ok (CtOK_nil (P := Tryz.prog) (Gl := Gs)))))))))))))
        refine Fun_cc _ mo Tryz.func5 (by decide) cc5 rs5 Tryz.ntmps5 (by simp) (AW_run hct 1000 ?_)
        simp (maxSteps := 10000000) (disch := omega) only [go_sem, c5, ctXSetL, ctXlive, ctHigh, ctXRoot, ctXPath, ctXPublic, mkA, ctRRows, ctRRoot1, ctRPub1, mlA, ctEqual, ← hxe, xmC, hk, hb', hmk, h1, hK, hh, hlow, hR, hP, hpa, hsl, reduceIte, seval, -BitVec.isValue, -BitVec.reduceOfNat, -List.reduceReplicate]
        try simp
    · obtain ⟨e, he⟩ : ∃ e, e = mkE x k := ⟨_, rfl⟩
      have hm : mlE x k i = e := by rw [mlE, if_neg hmk, he]
      have hR : xrtR x k = .tup [.ros true 0 [], .i e] := by rw [xrtR, if_neg hmk, he]
      have hP : xpuR x k = .tup [.ros true 0 [], .i e] := by rw [xpuR, if_neg hmk, he]
      have hpa : xpaR x k i = .tup [.ros true 0 [], .i e] := by rw [xpaR, if_neg (by rw [hm, he]; exact hmk), hm]
      rw [← he] at hmk hlow
      have hct := ctXSetL_ok (ctXlive_ok (ctHigh_ok (ctXRoot_ok (ctXPath_ok (ctXPublic_ok (ctRMayKey_ok (CtOK_nil (P := Tryz.prog) (Gl := Gs))))))))
      refine Fun_cc _ mo Tryz.func5 (by decide) cc5 rs5 Tryz.ntmps5 (by simp) (AW_run hct 1000 ?_)
      simp (maxSteps := 10000000) (disch := omega) only [go_sem, c5, ctXSetL, ctXlive, ctHigh, ctXRoot, ctXPath, ctXPublic, mkA, ← hxe, xmC, hk, hb', ← he, eq_false hmk, hR, hP, hpa, reduceIte, seval, -BitVec.isValue, -BitVec.reduceOfNat, -List.reduceReplicate]
      try simp
set_option maxHeartbeats 8000000 in
theorem XSigns_fun (c : BitVec 32) (k : XKey) (i : BitVec 32) (msg : By) (hk : k.ok) (h1 : msg.length ≤ 140737488351232) :
    Fun Tryz.prog Gs 6 [Enc.enc c, Enc.enc k, Enc.enc i, Enc.enc msg] (.b true) := by
  obtain ⟨x, hxe⟩ : ∃ x, x = setX c := ⟨_, rfl⟩
  have hct0 := ctXSetL_ok (ctXlive_ok (ctHigh_ok (ctXSign_ok (ctRMayLeaf_ok (CtOK_nil (P := Tryz.prog) (Gl := Gs))))))
  by_cases hb : highB x = true
  · refine Fun_cc _ mo Tryz.func6 (by decide) cc6 rs6 Tryz.ntmps6 (by simp) (AW_run hct0 1000 ?_)
    simp (maxSteps := 10000000) (disch := omega) only [go_sem, c6, ctXSetL, ctXlive, ctHigh, ← hxe, xmC, hb, reduceIte, seval, -BitVec.isValue, -BitVec.reduceOfNat, -List.reduceReplicate]
    try simp
  · have hb' : highB x = false := Bool.eq_false_iff.2 hb
    have hlow := low_of (k := k) hb'
    have hl2 : mkE x k = 0 → x.h ≤ 4 := fun q => by have := hlow q; omega
    by_cases hm : msg.length ≤ 3000
    · have hm' : ¬ (3000 : Int) < msg.length := by omega
      by_cases h : mlE x k i = 0
      · obtain ⟨hK, hlt⟩ := mlE_lt h
        have hmk := (mlE_zero h).1
        have hh := hlow hmk
        have hS : xsgR x k i msg = .tup [Enc.ret (sgnS x k i msg), .i 0] := by rw [xsgR, if_pos h]
        have hsl := rowsS_len x k (x.h.toNat + 1)
        have hct := ctXSetL_ok (ctXlive_ok (ctHigh_ok (ctXSign_ok (ctRMayLeaf_ok (ctRRows_ok (ctRXSign1_ok (x := x) (k := k) (i := i) (msg := msg) (by omega) hK hh hlt (ctEqual_ok (CtOK_nil (P := Tryz.prog) (Gl := Gs)))))))))
        refine Fun_cc _ mo Tryz.func6 (by decide) cc6 rs6 Tryz.ntmps6 (by simp) (AW_run hct 1000 ?_)
        simp (maxSteps := 10000000) (disch := omega) only [go_sem, c6, ctXSetL, ctXlive, ctHigh, ctXSign, mlA, ctRRows, ctRXSign1, ctEqual, ← hxe, xmC, hk, hb', h, hK, hh, eq_false hm', eq_true hl2, eq_true hlow, hS, hsl, reduceIte, seval, -BitVec.isValue, -BitVec.reduceOfNat, -List.reduceReplicate]
        try simp
      · obtain ⟨e, he⟩ : ∃ e, e = mlE x k i := ⟨_, rfl⟩
        have hS : xsgR x k i msg = .tup [.ros true 0 [], .i e] := by rw [xsgR, if_neg h, he]
        rw [← he] at h
        refine Fun_cc _ mo Tryz.func6 (by decide) cc6 rs6 Tryz.ntmps6 (by simp) (AW_run hct0 1000 ?_)
        simp (maxSteps := 10000000) (disch := omega) only [go_sem, c6, ctXSetL, ctXlive, ctHigh, ctXSign, mlA, ← hxe, xmC, hk, hb', ← he, eq_false h, eq_false hm', eq_true hl2, eq_true hlow, hS, reduceIte, seval, -BitVec.isValue, -BitVec.reduceOfNat, -List.reduceReplicate]
        try simp [h]
    · have hm' : (3000 : Int) < msg.length := by omega
      refine Fun_cc _ mo Tryz.func6 (by decide) cc6 rs6 Tryz.ntmps6 (by simp) (AW_run hct0 1000 ?_)
      simp (maxSteps := 10000000) (disch := omega) only [go_sem, c6, ctXSetL, ctXlive, ctHigh, ← hxe, xmC, hb', eq_true hm', reduceIte, seval, -BitVec.isValue, -BitVec.reduceOfNat, -List.reduceReplicate]
      try simp
end Go.Lv
