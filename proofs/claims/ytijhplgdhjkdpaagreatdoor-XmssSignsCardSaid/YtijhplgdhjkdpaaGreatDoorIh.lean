/- A part of the proof. -/
import Derived.Test.YtijhplgdhjkdpaaGreatDoorGJ
import Derived.Test.YtijhplgdhjkdpaaGreatDoorGG
import Derived.Test.YtijhplgdhjkdpaaGreatDoorGK
set_option linter.all false
namespace Go.Lv
open Go Go.Proofs
set_option linter.unusedSimpArgs false
set_option maxRecDepth 100000

/-! ## Signatures -/
def sgnR (x : Xms) (k : XKey) (i : BitVec 32) : By := kyS x 3#64 k.prf (nmS i 32)
def sgnM (x : Xms) (k : XKey) (i : BitVec 32) (msg : By) : By := smS x (sgnR x k i) (rootS x k) i msg
def sgnE (x : Xms) (k : XKey) (i : BitVec 32) (msg : By) : By := ends x.len.toNat (endF x k.seed k.pub (adO i) (dgN (sgnM x k i msg)))
def sgnS (x : Xms) (k : XKey) (i : BitVec 32) (msg : By) : By := wd4 i ++ sgnR x k i ++ sgnE x k i msg ++ pathS x k.seed k.pub i.toNat
theorem sgn_lens {x : Xms} {k : XKey} (h : KOK x k) (i : BitVec 32) (msg : By) : (wd4 i).length = 4 ∧ (sgnR x k i).length = x.n.toNat ∧ (sgnM x k i msg).length = x.n.toNat ∧ (sgnE x k i msg).length = x.len.toNat * x.n.toNat ∧ (pathS x k.seed k.pub i.toNat).length = x.h.toNat * x.n.toNat :=
  ⟨bigL_len _ _, kyS_len h.ok _ _ _, smS_len h.ok _ _ _ _, ends_len _ (endF_len h.ok _ _ _ _) _, pathS_len h.ok _ _ _⟩
def xsgR (x : Xms) (k : XKey) (i : BitVec 32) (msg : By) : AV := if mlE x k i = 0 then .tup [Enc.ret (sgnS x k i msg), .i 0] else .tup [.ros true 0 [], .i (mlE x k i)]
set_option maxHeartbeats 4000000 in
theorem XSign_fun (x : Xms) (k : XKey) (i : BitVec 32) (msg : By) (hk : k.ok) (hm : msg.length ≤ 100000000) (hh : mkE x k = 0 → x.h.toNat ≤ 4) : Fun Tryz.prog Gs 27 [Enc.enc x, Enc.enc k, Enc.enc i, Enc.enc msg] (xsgR x k i msg) := by
  by_cases h : mlE x k i = 0
  · obtain ⟨hK, hlt⟩ := mlE_lt h
    have hx := hK.ok
    have hn := hK.n
    have hks := hK.s
    have hkp := hK.p
    have hkb := hK.b
    have h4 := hh (mlE_zero h).1
    have hii : BitVec.ofNat 32 i.toNat = i := by simp
    have hm4 : x.h.toNat * x.n.toNat ≤ 4 * 32 := Nat.mul_le_mul (by omega) (by omega)
    have hm5 : x.len.toNat * x.n.toNat ≤ 67 * 32 := Nat.mul_le_mul (by omega) (by omega)
    obtain ⟨l1, l2, l3, l4, l5⟩ := sgn_lens hK i msg
    have l6 := rootS_len hK
    have l7 := nmS_len i 32 (by omega)
    have hP : ∀ t m, sumR x 3#64 t m = Enc.ret (kyS x 3#64 t m) := fun t m => by rw [sumR, if_pos hx]
    have hR : kyS x 3#64 k.prf (nmS i 32) = sgnR x k i := rfl
    have hM : smS x (sgnR x k i) (rootS x k) i msg = sgnM x k i msg := rfl
    have m3 : wmayE x [k.seed, k.pub, sgnM x k i msg] = 0 := by
      rw [wmayE, if_pos hx, if_pos]
      intro p hp
      simp only [List.mem_cons, List.not_mem_nil, or_false] at hp
      rcases hp with rfl | rfl | rfl <;> omega
    have wS : wsigV x k.seed k.pub (sgnM x k i msg) (adO i) = sgnE x k i msg := by rw [wsigV, if_pos m3]; rfl
    have hwe : ([.u32 0, .u32 0, .u32 0, .u32 0, .u32 i, .u32 0, .u32 0, .u32 0] : List AV) = (adO i).map .u32 := rfl
    have hwe' : ([.u32 0#32, .u32 0#32, .u32 0#32, .u32 0#32, .u32 i, .u32 0#32, .u32 0#32, .u32 0#32] : List AV) = (adO i).map .u32 := rfl
    have hwl : (adO i).length = 8 := rfl
    have hwd : bigL (i.setWidth 64) 4 = wd4 i := rfl
    have hfl : [wd4 i, sgnR x k i, sgnE x k i msg, pathS x k.seed k.pub i.toNat].flatten = sgnS x k i msg := by simp [sgnS]
    have hsl : (sgnS x k i msg).length = 4 + x.n.toNat + x.len.toNat * x.n.toNat + x.h.toNat * x.n.toNat := by simp [sgnS, l1, l2, l4, l5]; omega
    have i32 : Int.toNat 32 = 32 := rfl
    have hct := mark_ok 61 (ctMayLeaf_ok (ctWhole1_ok (x := x) (k := k) (i := i.toNat) hK h4 hlt (ctXnum_ok (ctWPrf_ok (ctSummed_ok (ctWSign_ok (ctU32_ok (ctOJoin_ok (CtOK_nil (P := Tryz.prog) (Gl := Gs))))))))))
    rw [xsgR, if_pos h]
    refine Fun_cc _ mo Tryz.func27 (by decide) cc27 rs27 Tryz.ntmps27 (by simp) (AW_run hct 1000 ?_)
    simp (maxSteps := 10000000) (disch := omega) only [go_sem, c27, mark, mlA, ctWhole1, ctXnum, ctWPrf, smA, ctWSign, ctU32, ctOJoin, xmC, hk, h, hii, hx, hP, hR, hM, m3, wS, i32, hwe, hwe', hwl, hwd, l1, l2, l3, l4, l5, l6, l7, hfl, hsl, deL_cons, deL_nil, reduceIte, seval, -BitVec.isValue, -BitVec.reduceOfNat, -List.reduceReplicate]
    try simp
  · rw [xsgR, if_neg h]
    obtain ⟨e, he⟩ : ∃ e, e = mlE x k i := ⟨_, rfl⟩
    rw [← he] at h ⊢
    have hct := ctMayLeaf_ok (CtOK_nil (P := Tryz.prog) (Gl := Gs))
    refine Fun_cc _ mo Tryz.func27 (by decide) cc27 rs27 Tryz.ntmps27 (by simp) (AW_run hct 1000 ?_)
    simp (maxSteps := 10000000) (disch := omega) only [go_sem, c27, mlA, xmC, hk, ← he, eq_false h, reduceIte, seval, -BitVec.isValue, -BitVec.reduceOfNat, -List.reduceReplicate]
    try simp
def ctXSign : Nat × (List AV → R) := (27, A4 fun (x : Xms) (k : XKey) (i : BitVec 32) (msg : By) => (k.ok ∧ msg.length ≤ 100000000 ∧ (mkE x k = 0 → x.h.toNat ≤ 4), xsgR x k i msg))
theorem ctXSign_ok {Ct : List (Nat × (List AV → R))} (h : CtOK Tryz.prog Gs Ct) : CtOK Tryz.prog Gs (ctXSign :: Ct) := CtOK_cons (Row4 fun x k i msg h => XSign_fun x k i msg h.1 h.2.1 h.2.2) h
end Go.Lv
