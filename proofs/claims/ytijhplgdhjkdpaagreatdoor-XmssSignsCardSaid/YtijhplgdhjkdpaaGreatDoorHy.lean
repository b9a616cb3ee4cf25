/- A part of the proof. -/
import Derived.Test.YtijhplgdhjkdpaaGreatDoorGJ
import Derived.Test.YtijhplgdhjkdpaaGreatDoorGI
import Derived.Test.YtijhplgdhjkdpaaGreatDoorGK
set_option linter.all false
namespace Go.Lv
open Go Go.Proofs
set_option linter.unusedSimpArgs false
set_option maxRecDepth 100000

/-! ## Law: the path of each leaf leads to the root -/
theorem mod32 (m : Nat) (h : m < 1000) : BitVec.ofNat 32 m % 2#32 = BitVec.ofNat 32 (m % 2) := by
  apply BitVec.eq_of_toNat_eq
  have e1 : (BitVec.ofNat 32 m).toNat = m := by rw [BitVec.toNat_ofNat]; omega
  have e2 : (BitVec.ofNat 32 (m % 2)).toNat = m % 2 := by rw [BitVec.toNat_ofNat]; omega
  have e3 : (2#32).toNat = 2 := rfl
  rw [BitVec.toNat_umod, e1, e2, e3]
def σup (x : Xms) (k : XKey) (i : Nat) (h : Nat) : St :=
  ⟨[(4, .ptr 0 0), (7, .ptr 1 0), (8, Enc.enc (climbS x k.pub i (pathS x k.seed k.pub i) h (nodeAt x k.seed k.pub 0 i))), (10, Enc.ret (pathS x k.seed k.pub i)), (12, Enc.enc (rootS x k)), (14, .u32 (BitVec.ofNat 32 (i / 2 ^ h))), (77, .i x.h), (78, .i h)],
   [(0, ⟨[Enc.enc k.seed, Enc.enc k.prf, Enc.enc k.pub], true⟩), (1, ⟨xmC x, true⟩)], 2⟩
set_option maxHeartbeats 8000000 in
theorem XUp_fun (c : BitVec 32) (k : XKey) (i : BitVec 32) (hk : k.ok) :
    Fun Tryz.prog Gs 4 [Enc.enc c, Enc.enc k, Enc.enc i] (.b true) := by
  obtain ⟨x, hxe⟩ : ∃ x, x = setX c := ⟨_, rfl⟩
  have hct := ctXSetL_ok (ctXlive_ok (ctHigh_ok (ctRMayLeaf_ok (ctXLeaf_ok (ctXPath_ok (ctXRoot_ok (CtOK_nil (P := Tryz.prog) (Gl := Gs))))))))
  refine Fun_cc [ctXSetL, ctXlive, ctHigh, mlA 12, ctXLeaf, ctXPath, ctXRoot] mo Tryz.func4 (by decide) cc4 rs4 Tryz.ntmps4 (by simp) (AW_run hct 1000 ?_)
  by_cases hb : highB x = true
  · simp (maxSteps := 10000000) (disch := omega) only [go_sem, c4, ctXSetL, ctXlive, ctHigh, mlA, ctXLeaf, ctXPath, ctXRoot, ← hxe, xmC, hk, hb, reduceIte, seval, -BitVec.isValue, -BitVec.reduceOfNat, -List.reduceReplicate]
    try simp
  · have hb' : highB x = false := Bool.eq_false_iff.2 hb
    have hlow := low_of (k := k) hb'
    by_cases h : mlE x k i = 0
    · obtain ⟨hK, hlt⟩ := mlE_lt h
      have hmk := (mlE_zero h).1
      have hh := hlow hmk
      have hx32 := hK.n
      have hH := xms_h hK.ok
      have h16 : i.toNat < 16 := Nat.lt_of_lt_of_le hlt (Nat.pow_le_pow_right (n := 2) (by omega) hh)
      have hR1 : xlfR x k i = .tup [Enc.enc (leafS x k.seed k.pub i), .i 0] := by rw [xlfR, if_pos h]
      have hR2 : xpaR x k i = .tup [Enc.ret (pathS x k.seed k.pub i.toNat), .i 0] := by rw [xpaR, if_pos h]
      have hR3 : xrtR x k = .tup [Enc.enc (rootS x k), .i 0] := by rw [xrtR, if_pos hmk]
      have hii : BitVec.ofNat 32 i.toNat = i := by simp
      have hlf : leafS x k.seed k.pub i = nodeAt x k.seed k.pub 0 i.toNat := by rw [nodeAt, hii]
      have hpl := pathS_len hK.ok k.seed k.pub i.toNat
      have hxn : x.n = (x.n.toNat : Int) := by omega
      have hxh : x.h = (x.h.toNat : Int) := by omega
      have q0 : x.h * x.n = ((x.h.toNat * x.n.toNat : Nat) : Int) := by rw [Int.natCast_mul, ← hxn, ← hxh]
      have hm4 : x.h.toNat * x.n.toNat ≤ 4 * 32 := Nat.mul_le_mul (by omega) (by omega)
      simp (maxSteps := 10000000) (disch := omega) only [go_sem, c4, ctXSetL, ctXlive, ctHigh, mlA, ctXLeaf, ctXPath, ctXRoot, ← hxe, xmC, hk, hb', h, hR1, hR2, hR3, hlow, hpl, q0, reduceIte, seval, -BitVec.isValue, -BitVec.reduceOfNat, -List.reduceReplicate]
      obtain ⟨I, hI⟩ : ∃ I, I = i.toNat := ⟨_, rfl⟩
      rw [← hI] at hlt h16 hii hlf hpl
      rw [← hI]
      refine AW_loop (σup x k I) (fun h => (h : Int) ≤ x.h) (fun h => x.h.toNat - h) 0 (by simp; omega) (Wk_p [] ?_) fun h hhl => ?_
      · simp only [go_sem, σup, xmC, climbS, hlf, reduceIte, seval, -BitVec.isValue, -BitVec.reduceOfNat, -List.reduceReplicate]
        simp [hii, hpl]
      · have hcl := climbS_len hK.ok k.pub I (pathS x k.seed k.pub I) h (nodeAt x k.seed k.pub 0 I) (nodeAt_len hK.ok _ _ _ _)
        by_cases hc : (h : Int) < x.h
        · have hq : I / 2 ^ h < 16 := Nat.lt_of_le_of_lt (Nat.div_le_self _ _) h16
          have hroom : h * x.n.toNat + x.n.toNat ≤ x.h.toNat * x.n.toNat := by rw [← Nat.succ_mul]; exact Nat.mul_le_mul_right _ (by omega)
          have q1 : (h : Int) * x.n = ((h * x.n.toNat : Nat) : Int) := by rw [Int.natCast_mul, ← hxn]
          have q2 : ((h : Int) + 1) * x.n = ((h * x.n.toNat + x.n.toNat : Nat) : Int) := by rw [Int.add_mul, q1, Int.one_mul]; omega
          have q3 : h * x.n.toNat + x.n.toNat - h * x.n.toNat = x.n.toNat := by omega
          have hsp : ((pathS x k.seed k.pub I).drop (h * x.n.toNat)).take x.n.toNat = sigP x (pathS x k.seed k.pub I) h := rfl
          have hsl := sigP_len x (pathS x k.seed k.pub I) h (by rw [Nat.succ_mul]; omega)
          have hdv := div32 (I / 2 ^ h) (by omega)
          have hmd := mod32 (I / 2 ^ h) (by omega)
          have hdv' : BitVec.ofNat 32 (I / 2 ^ h) / (2 : BitVec 32) = BitVec.ofNat 32 (I / 2 ^ h / 2) := hdv
          have hmd' : BitVec.ofNat 32 (I / 2 ^ h) % (2 : BitVec 32) = BitVec.ofNat 32 (I / 2 ^ h % 2) := hmd
          have hq2 : I / 2 ^ h / 2 = I / 2 ^ (h + 1) := by rw [Nat.pow_succ, Nat.div_div_eq_div_mul]
          rw [hq2] at hdv hdv'
          have hoh := oi32 h
          have had : adK (BitVec.ofInt 32 2) (0 : BitVec 32) (BitVec.ofNat 32 h) (BitVec.ofNat 32 (I / 2 ^ (h + 1))) = adT h (I / 2 ^ (h + 1)) := rfl
          have had' : adK 2#32 (0 : BitVec 32) (BitVec.ofNat 32 h) (BitVec.ofNat 32 (I / 2 ^ (h + 1))) = adT h (I / 2 ^ (h + 1)) := rfl
          have hal : (adT h (I / 2 ^ (h + 1))).length = 8 := rfl
          obtain ⟨cur, hcur⟩ : ∃ cur, cur = climbS x k.pub I (pathS x k.seed k.pub I) h (nodeAt x k.seed k.pub 0 I) := ⟨_, rfl⟩
          obtain ⟨sb, hsb⟩ : ∃ sb, sb = sigP x (pathS x k.seed k.pub I) h := ⟨_, rfl⟩
          have hstep : climbS x k.pub I (pathS x k.seed k.pub I) (h + 1) (nodeAt x k.seed k.pub 0 I) = if I / 2 ^ h % 2 = 0 then nodeS x k.pub (adT h (I / 2 ^ (h + 1))) cur sb else nodeS x k.pub (adT h (I / 2 ^ (h + 1))) sb cur := by rw [climbS, ← hcur, ← hsb]
          rw [← hcur] at hcl
          rw [← hsb] at hsp hsl
          have hpb := hK.b
          have m0 : ∀ a b : By, a.length = x.n.toNat → b.length = x.n.toNat → wmayE x [k.pub, a, b] = 0 := by
            intro a b ha hb
            rw [wmayE, if_pos hK.ok, if_pos]
            intro p hp
            simp only [List.mem_cons, List.not_mem_nil, or_false] at hp
            rcases hp with rfl | rfl | rfl <;> omega
          have hct2 := ctRXAt_ok (ctXNode_ok (CtOK_nil (P := Tryz.prog) (Gl := Gs)))
          by_cases he : I / 2 ^ h % 2 = 0
          · rw [if_pos he] at hstep
            rw [he] at hmd hmd'
            have m1 := m0 cur sb hcl hsl
            have nv : nodV x k.pub (adT h (I / 2 ^ (h + 1))) cur sb = nodeS x k.pub (adT h (I / 2 ^ (h + 1))) cur sb := by rw [nodV, if_pos m1]
            have hnl := nodeS_len hK.ok k.pub (adT h (I / 2 ^ (h + 1))) cur sb
            refine AW_ct [ctRXAt, ctXNode] (AW_run hct2 1000 ?_)
            simp (maxSteps := 10000000) (disch := omega) only [go_sem, σup, xmC, ← hcur, hc, q1, q2, q3, hsp, hsl, hcl, hmd, hmd', hdv, hdv', hoh, ctRXAt, ctXNode, had, had', hal, m1, nv, hnl, reduceIte, seval, -BitVec.isValue, -BitVec.reduceOfNat, -List.reduceReplicate]
            refine ⟨h + 1, by omega, Wk_uf 99 [8] (Wk_p [] ?_), by omega⟩
            simp only [go_sem, σup, xmC, ufF, ufH, hstep, hnl, reduceIte, seval, -BitVec.isValue, -BitVec.reduceOfNat, -List.reduceReplicate]
            try simp
          · have he1 : I / 2 ^ h % 2 = 1 := by omega
            rw [if_neg he] at hstep
            rw [he1] at hmd hmd'
            have m1 := m0 sb cur hsl hcl
            have nv : nodV x k.pub (adT h (I / 2 ^ (h + 1))) sb cur = nodeS x k.pub (adT h (I / 2 ^ (h + 1))) sb cur := by rw [nodV, if_pos m1]
            have hnl := nodeS_len hK.ok k.pub (adT h (I / 2 ^ (h + 1))) sb cur
            refine AW_ct [ctRXAt, ctXNode] (AW_run hct2 1000 ?_)
            simp (maxSteps := 10000000) (disch := omega) only [go_sem, σup, xmC, ← hcur, hc, q1, q2, q3, hsp, hsl, hcl, hmd, hmd', hdv, hdv', hoh, ctRXAt, ctXNode, had, had', hal, m1, nv, hnl, reduceIte, seval, -BitVec.isValue, -BitVec.reduceOfNat, -List.reduceReplicate]
            refine ⟨h + 1, by omega, Wk_uf 99 [8] (Wk_p [] ?_), by omega⟩
            simp only [go_sem, σup, xmC, ufF, ufH, hstep, hnl, reduceIte, seval, -BitVec.isValue, -BitVec.reduceOfNat, -List.reduceReplicate]
            try simp
        · have hge : h = x.h.toNat := by omega
          subst hge
          have hrt := climb_root hK.ok k.seed k.pub I hlt hh
          have hct3 := ctEqual_ok (CtOK_nil (P := Tryz.prog) (Gl := Gs))
          refine AW_ct [ctEqual] (AW_run hct3 1000 ?_)
          simp (maxSteps := 10000000) (disch := omega) only [go_sem, σup, xmC, hc, hrt, rootS, ctEqual, reduceIte, seval, -BitVec.isValue, -BitVec.reduceOfNat, -List.reduceReplicate]
          try simp
    · obtain ⟨e, he⟩ : ∃ e, e = mlE x k i := ⟨_, rfl⟩
      rw [← he] at h
      simp (maxSteps := 10000000) (disch := omega) only [go_sem, c4, ctXSetL, ctXlive, ctHigh, mlA, ctXLeaf, ctXPath, ctXRoot, ← hxe, xmC, hk, hb', ← he, eq_false h, reduceIte, seval, -BitVec.isValue, -BitVec.reduceOfNat, -List.reduceReplicate]
      try simp
end Go.Lv
