/- A part of the proof. -/
import Derived.Test.YtijhplgdhjkdpaaGreatDoorHt
import Derived.Test.YtijhplgdhjkdpaaGreatDoorGK
set_option linter.all false
namespace Go.Lv
open Go Go.Proofs
set_option linter.unusedSimpArgs false
set_option maxRecDepth 100000

/-! ## Root, path, public key -/
theorem shl_nat {h : Nat} (hh : h ≤ 20) : ((1 : BitVec 64) <<< h).toNat = 2 ^ h := by
  have : 2 ^ h ≤ 2 ^ 20 := Nat.pow_le_pow_right (n := 2) (by omega) hh
  rw [BitVec.toNat_shiftLeft, Nat.shiftLeft_eq, show (1 : BitVec 64).toNat = 1 from rfl, Nat.one_mul, Nat.mod_eq_of_lt (by omega)]
theorem mlE_lt {x : Xms} {k : XKey} {i : BitVec 32} (h : mlE x k i = 0) : KOK x k ∧ i.toNat < 2 ^ x.h.toNat := by
  obtain ⟨h1, h2⟩ := mlE_zero h
  have hK := mkE_zero h1
  have hh := xms_h hK.ok
  refine ⟨hK, ?_⟩
  rw [BitVec.le_def, shl_nat (by omega), BitVec.toNat_setWidth] at h2
  have := i.isLt
  omega
theorem mlE_ge {x : Xms} {k : XKey} {i : BitVec 32} (h : mkE x k = 0) : mlE x k i = if 2 ^ x.h.toNat ≤ i.toNat then 1 else 0 := by
  have hK := mkE_zero h
  have hh := xms_h hK.ok
  have e : ((1 : BitVec 64) <<< x.h.toNat ≤ i.setWidth 64) ↔ 2 ^ x.h.toNat ≤ i.toNat := by
    rw [BitVec.le_def, shl_nat (by omega), BitVec.toNat_setWidth]
    have := i.isLt
    omega
  rw [mlE, if_pos h]
  by_cases g : 2 ^ x.h.toNat ≤ i.toNat
  · rw [if_pos g, if_pos (e.2 g)]
  · rw [if_neg g, if_neg fun q => g (e.1 q)]
def rootS (x : Xms) (k : XKey) : By := nodeAt x k.seed k.pub x.h.toNat 0
theorem rootS_len {x : Xms} {k : XKey} (h : KOK x k) : (rootS x k).length = x.n.toNat := nodeAt_len h.ok _ _ _ _
def ctWhole1 (x : Xms) (k : XKey) (i : Nat) : Nat × (List AV → R) := (48, fun a => (a = [Enc.enc x, Enc.enc k, Enc.enc (BitVec.ofNat 32 i)], .tup [Enc.enc (rootS x k), Enc.ret (pathS x k.seed k.pub i)]))
theorem ctWhole1_ok {x : Xms} {k : XKey} {i : Nat} (hK : KOK x k) (hh : x.h.toNat ≤ 4) (hi : i < 2 ^ x.h.toNat) {Ct : List (Nat × (List AV → R))} (h : CtOK Tryz.prog Gs Ct) : CtOK Tryz.prog Gs (ctWhole1 x k i :: Ct) := CtOK_cons (fun a e => by
  have e : a = [Enc.enc x, Enc.enc k, Enc.enc (BitVec.ofNat 32 i)] := e
  subst e; exact whole_fun x k i hK hh hi) h
def xrtR (x : Xms) (k : XKey) : AV := if mkE x k = 0 then .tup [Enc.enc (rootS x k), .i 0] else .tup [.ros true 0 [], .i (mkE x k)]
set_option maxHeartbeats 1000000 in
theorem XRoot_fun (x : Xms) (k : XKey) (hk : k.ok) (hh : mkE x k = 0 → x.h.toNat ≤ 4) : Fun Tryz.prog Gs 18 [Enc.enc x, Enc.enc k] (xrtR x k) := by
  by_cases h : mkE x k = 0
  · have hK := mkE_zero h
    have hct := ctMayKey_ok (ctWhole1_ok (x := x) (k := k) (i := 0) hK (hh h) (Nat.pow_pos (by omega)) (CtOK_nil (P := Tryz.prog) (Gl := Gs)))
    rw [xrtR, if_pos h]
    have z0 : BitVec.ofNat 32 0 = (0 : BitVec 32) := rfl
    refine Fun_cc _ mo Tryz.func18 (by decide) cc18 rs18 Tryz.ntmps18 (by simp) (AW_run hct 1000 ?_)
    simp (maxSteps := 10000000) (disch := omega) only [go_sem, c18, mkA, ctWhole1, xmC, hk, h, z0, reduceIte, seval, -BitVec.isValue, -BitVec.reduceOfNat, -List.reduceReplicate]
    try simp
  · rw [xrtR, if_neg h]
    obtain ⟨e, he⟩ : ∃ e, e = mkE x k := ⟨_, rfl⟩
    rw [← he] at h ⊢
    have hct := ctMayKey_ok (CtOK_nil (P := Tryz.prog) (Gl := Gs))
    refine Fun_cc _ mo Tryz.func18 (by decide) cc18 rs18 Tryz.ntmps18 (by simp) (AW_run hct 1000 ?_)
    simp (maxSteps := 10000000) (disch := omega) only [go_sem, c18, mkA, xmC, hk, ← he, eq_false h, reduceIte, seval, -BitVec.isValue, -BitVec.reduceOfNat, -List.reduceReplicate]
    try simp
def ctXRoot : Nat × (List AV → R) := (18, A2 fun (x : Xms) (k : XKey) => (k.ok ∧ (mkE x k = 0 → x.h.toNat ≤ 4), xrtR x k))
theorem ctXRoot_ok {Ct : List (Nat × (List AV → R))} (h : CtOK Tryz.prog Gs Ct) : CtOK Tryz.prog Gs (ctXRoot :: Ct) := CtOK_cons (Row2 fun x k h => XRoot_fun x k h.1 h.2) h
def xpaR (x : Xms) (k : XKey) (i : BitVec 32) : AV := if mlE x k i = 0 then .tup [Enc.ret (pathS x k.seed k.pub i.toNat), .i 0] else .tup [.ros true 0 [], .i (mlE x k i)]
set_option maxHeartbeats 1000000 in
theorem XPath_fun (x : Xms) (k : XKey) (i : BitVec 32) (hk : k.ok) (hh : mkE x k = 0 → x.h.toNat ≤ 4) : Fun Tryz.prog Gs 17 [Enc.enc x, Enc.enc k, Enc.enc i] (xpaR x k i) := by
  by_cases h : mlE x k i = 0
  · obtain ⟨hK, hlt⟩ := mlE_lt h
    have hii : BitVec.ofNat 32 i.toNat = i := by simp
    have hct := ctMayLeaf_ok (ctWhole1_ok (x := x) (k := k) (i := i.toNat) hK (hh (mlE_zero h).1) hlt (CtOK_nil (P := Tryz.prog) (Gl := Gs)))
    rw [xpaR, if_pos h]
    refine Fun_cc _ mo Tryz.func17 (by decide) cc17 rs17 Tryz.ntmps17 (by simp) (AW_run hct 1000 ?_)
    simp (maxSteps := 10000000) (disch := omega) only [go_sem, c17, mlA, ctWhole1, xmC, hk, h, hii, reduceIte, seval, -BitVec.isValue, -BitVec.reduceOfNat, -List.reduceReplicate]
    try simp
  · rw [xpaR, if_neg h]
    obtain ⟨e, he⟩ : ∃ e, e = mlE x k i := ⟨_, rfl⟩
    rw [← he] at h ⊢
    have hct := ctMayLeaf_ok (CtOK_nil (P := Tryz.prog) (Gl := Gs))
    refine Fun_cc _ mo Tryz.func17 (by decide) cc17 rs17 Tryz.ntmps17 (by simp) (AW_run hct 1000 ?_)
    simp (maxSteps := 10000000) (disch := omega) only [go_sem, c17, mlA, xmC, hk, ← he, eq_false h, reduceIte, seval, -BitVec.isValue, -BitVec.reduceOfNat, -List.reduceReplicate]
    try simp
def ctXPath : Nat × (List AV → R) := (17, A3 fun (x : Xms) (k : XKey) (i : BitVec 32) => (k.ok ∧ (mkE x k = 0 → x.h.toNat ≤ 4), xpaR x k i))
theorem ctXPath_ok {Ct : List (Nat × (List AV → R))} (h : CtOK Tryz.prog Gs Ct) : CtOK Tryz.prog Gs (ctXPath :: Ct) := CtOK_cons (Row3 fun x k i h => XPath_fun x k i h.1 h.2) h
def pubXS (x : Xms) (k : XKey) : By := wd4 x.code ++ rootS x k ++ k.pub
def xpuR (x : Xms) (k : XKey) : AV := if mkE x k = 0 then .tup [Enc.ret (pubXS x k), .i 0] else .tup [.ros true 0 [], .i (mkE x k)]
set_option maxHeartbeats 1000000 in
theorem XPublic_fun (x : Xms) (k : XKey) (hk : k.ok) (hh : mkE x k = 0 → x.h.toNat ≤ 4) : Fun Tryz.prog Gs 21 [Enc.enc x, Enc.enc k] (xpuR x k) := by
  have hct := ctXRoot_ok (ctU32_ok (ctOJoin_ok (CtOK_nil (P := Tryz.prog) (Gl := Gs))))
  by_cases h : mkE x k = 0
  · have hK := mkE_zero h
    have hn := hK.n
    have hb := hK.b
    have hR : xrtR x k = .tup [Enc.enc (rootS x k), .i 0] := by rw [xrtR, if_pos h]
    have hrl := rootS_len hK
    have hbl : (wd4 x.code).length = 4 := bigL_len _ _
    have hwd : bigL (x.code.setWidth 64) 4 = wd4 x.code := rfl
    have hfl : [wd4 x.code, rootS x k, k.pub].flatten = pubXS x k := by simp [pubXS]
    have hpl : (pubXS x k).length = 4 + x.n.toNat + x.n.toNat := by simp [pubXS, hbl, hrl]; omega
    rw [xpuR, if_pos h]
    refine Fun_cc _ mo Tryz.func21 (by decide) cc21 rs21 Tryz.ntmps21 (by simp) (AW_run hct 1000 ?_)
    simp (maxSteps := 10000000) (disch := omega) only [go_sem, c21, ctXRoot, ctU32, ctOJoin, xmC, hk, h, hh h, hR, hwd, hbl, hrl, hfl, hpl, deL_cons, deL_nil, reduceIte, seval, -BitVec.isValue, -BitVec.reduceOfNat, -List.reduceReplicate]
    try simp
  · rw [xpuR, if_neg h]
    obtain ⟨e, he⟩ : ∃ e, e = mkE x k := ⟨_, rfl⟩
    have hR : xrtR x k = .tup [.ros true 0 [], .i e] := by rw [xrtR, if_neg h, he]
    rw [← he] at h ⊢
    refine Fun_cc _ mo Tryz.func21 (by decide) cc21 rs21 Tryz.ntmps21 (by simp) (AW_run hct 1000 ?_)
    simp (maxSteps := 10000000) (disch := omega) only [go_sem, c21, ctXRoot, ctU32, ctOJoin, xmC, hk, ← he, eq_false h, hR, reduceIte, seval, -BitVec.isValue, -BitVec.reduceOfNat, -List.reduceReplicate]
    try simp
def ctXPublic : Nat × (List AV → R) := (21, A2 fun (x : Xms) (k : XKey) => (k.ok ∧ (mkE x k = 0 → x.h.toNat ≤ 4), xpuR x k))
theorem ctXPublic_ok {Ct : List (Nat × (List AV → R))} (h : CtOK Tryz.prog Gs Ct) : CtOK Tryz.prog Gs (ctXPublic :: Ct) := CtOK_cons (Row2 fun x k h => XPublic_fun x k h.1 h.2) h
def highB (x : Xms) : Bool := decide (xmsT x.code = some x) && decide (4 < x.h)
theorem high_fun (x : Xms) : Fun Tryz.prog Gs 16 [Enc.enc x] (.b (highB x)) := by
  have hct := ctRMayXmss_ok (CtOK_nil (P := Tryz.prog) (Gl := Gs))
  refine Fun_cc _ mo Tryz.func16 (by decide) cc16 rs16 Tryz.ntmps16 (by simp) (AW_run hct 1000 ?_)
  by_cases h : xmsT x.code = some x
  · rw [highB, decide_eq_true h]
    simp (maxSteps := 10000000) (disch := omega) only [go_sem, c16, ctRMayXmss, xmC, h, decide_true, reduceIte, seval, -BitVec.isValue, -BitVec.reduceOfNat, -List.reduceReplicate]
    try simp
  · rw [highB, decide_eq_false h]
    simp (maxSteps := 10000000) (disch := omega) only [go_sem, c16, ctRMayXmss, xmC, h, decide_false, reduceIte, seval, -BitVec.isValue, -BitVec.reduceOfNat, -List.reduceReplicate]
    try simp
def ctHigh : Nat × (List AV → R) := (16, A1 fun x : Xms => (True, .b (highB x)))
theorem ctHigh_ok {Ct : List (Nat × (List AV → R))} (h : CtOK Tryz.prog Gs Ct) : CtOK Tryz.prog Gs (ctHigh :: Ct) := CtOK_cons (Row1 fun x _ => high_fun x) h
theorem low_of {x : Xms} {k : XKey} (h : highB x = false) : mkE x k = 0 → x.h.toNat ≤ 4 := by
  intro e
  have hK := mkE_zero e
  rw [highB, decide_eq_true hK.ok, Bool.true_and, decide_eq_false_iff_not] at h
  omega
end Go.Lv
