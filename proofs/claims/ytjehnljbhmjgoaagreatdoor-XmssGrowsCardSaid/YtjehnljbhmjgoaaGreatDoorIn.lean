/- A part of the proof. -/
import Derived.Test.YtjehnljbhmjgoaaGreatDoorFD
import Derived.Test.YtjehnljbhmjgoaaGreatDoorGJ
import Derived.Test.YtjehnljbhmjgoaaGreatDoorGK
set_option linter.all false
namespace Go.Lv
open Go Go.Proofs
set_option linter.unusedSimpArgs false
set_option maxRecDepth 100000
def trV (x : Xms) (k : XKey) (L : List (Nat × Nat)) (n : Int) : AV := .rop false (trC x k (.ros false L.length (stC x k L)) n)
def ct1 (n : Nat) (az : List AV) (r : AV) : Nat × (List AV → R) := (n, fun a => (a = az, r))
theorem ct1_ok {n : Nat} {az : List AV} {r : AV} (hf : Fun Tryz.prog Gs n az r) {Ct : List (Nat × (List AV → R))} (h : CtOK Tryz.prog Gs Ct) : CtOK Tryz.prog Gs (ct1 n az r :: Ct) := CtOK_cons (fun a e => by
  have e : a = az := e
  subst e; exact hf) h
theorem xnoneV_fun (x : Xms) (k : XKey) (L : List (Nat × Nat)) (n : Int) (hK : KOK x k) : Fun Tryz.prog Gs 83 [trV x k L n] (.b false) := by
  have hn : ¬ x.n = 0 := by rcases xmsT_n hK.ok with ⟨h, _⟩ | ⟨h, _⟩ <;> omega
  refine Fun_cc [] mo Tryz.func83 (by decide) cc83 rs83 Tryz.ntmps83 (by simp) ?_
  refine AW_run CtOK_nil 1000 ?_
  simp (maxSteps := 10000000) (disch := omega) only [go_sem, c83, trV, trC, eq_false hn, reduceIte, seval, -BitVec.isValue, -BitVec.reduceOfNat, -List.reduceReplicate]
  try simp [hn]
def ctNoneV (x : Xms) (k : XKey) (L : List (Nat × Nat)) (n : Int) : Nat × (List AV → R) := ct1 83 [trV x k L n] (.b false)
theorem one2 {x : Xms} {k : XKey} (hK : KOK x k) : (1 : Int) * 2 ^ x.h.toNat = ((2 ^ x.h.toNat : Nat) : Int) := by simp
theorem xrootV_st (x : Xms) (k : XKey) (n : Nat) (hK : KOK x k) (hh : x.h.toNat ≤ 4) (h : n < 2 ^ x.h.toNat) : Fun Tryz.prog Gs 21 [trV x k (stk n 0) n] (.tup [.ros true 0 [], .i 9]) := by
  have hH := xms_h hK.ok
  have h1 := one2 hK
  obtain ⟨P, hP⟩ : ∃ P, P = 2 ^ x.h.toNat := ⟨_, rfl⟩
  have hP16 : P ≤ 16 := by rw [hP]; exact Nat.pow_le_pow_right (n := 2) (by omega) hh
  rw [← hP] at h1 h
  have hlt : (n : Int) < (P : Int) := by omega
  have hct := ct1_ok (xnoneV_fun x k (stk n 0) n hK) (CtOK_nil (P := Tryz.prog) (Gl := Gs))
  refine Fun_cc _ mo Tryz.func21 (by decide) cc21 rs21 Tryz.ntmps21 (by simp) (AW_run hct 1000 ?_)
  simp (maxSteps := 10000000) (disch := omega) only [go_sem, c21, ct1, trV, trC, h1, eq_true hlt, reduceIte, seval, -BitVec.isValue, -BitVec.reduceOfNat, -List.reduceReplicate]
  try simp
theorem xrootV_all (x : Xms) (k : XKey) (hK : KOK x k) (hh : x.h.toNat ≤ 4) : Fun Tryz.prog Gs 21 [trV x k (stk (2 ^ x.h.toNat) 0) (2 ^ x.h.toNat : Nat)] (.tup [Enc.ret (rootS x k), .i 0]) := by
  have hH := xms_h hK.ok
  have hn := hK.n
  have h1 := one2 hK
  have hs := stk_all x.h.toNat (by omega)
  have hnl := rootS_len hK
  obtain ⟨P, hP⟩ : ∃ P, P = 2 ^ x.h.toNat := ⟨_, rfl⟩
  have hP16 : P ≤ 16 := by rw [hP]; exact Nat.pow_le_pow_right (n := 2) (by omega) hh
  rw [← hP] at h1 hs ⊢
  have hlt : ¬ (P : Int) < (P : Int) := by omega
  have hst : stC x k (stk P 0) = [.i x.h.toNat, .u32 (BitVec.ofNat 32 0), Enc.enc (rootS x k)] := by rw [hs]; rfl
  have hsl : (stk P 0).length = 1 := by rw [hs]; rfl
  have hf : [rootS x k].flatten = rootS x k := by simp
  have hct := mark_ok 27 (ct1_ok (xnoneV_fun x k (stk P 0) P hK) (ctOJoin_ok (CtOK_nil (P := Tryz.prog) (Gl := Gs))))
  refine Fun_cc _ mo Tryz.func21 (by decide) cc21 rs21 Tryz.ntmps21 (by simp) (AW_run hct 1000 ?_)
  simp (maxSteps := 10000000) (disch := omega) only [go_sem, c21, mark, ct1, ctOJoin, trV, trC, h1, eq_false hlt, hst, hsl, hf, hnl, deL_cons, deL_nil, reduceIte, seval, -BitVec.isValue, -BitVec.reduceOfNat, -List.reduceReplicate]
  try simp
theorem xleavesV_fun (x : Xms) (k : XKey) (L : List (Nat × Nat)) (n : Int) (hK : KOK x k) : Fun Tryz.prog Gs 22 [trV x k L n] (.i n) := by
  have hct := ct1_ok (xnoneV_fun x k L n hK) (CtOK_nil (P := Tryz.prog) (Gl := Gs))
  refine Fun_cc _ mo Tryz.func22 (by decide) cc22 rs22 Tryz.ntmps22 (by simp) (AW_run hct 1000 ?_)
  simp (maxSteps := 10000000) (disch := omega) only [go_sem, c22, ct1, trV, trC, reduceIte, seval, -BitVec.isValue, -BitVec.reduceOfNat, -List.reduceReplicate]
  try simp
theorem xheldV_fun (x : Xms) (k : XKey) (L : List (Nat × Nat)) (n : Int) (hK : KOK x k) : Fun Tryz.prog Gs 23 [trV x k L n] (.i L.length) := by
  have hct := ct1_ok (xnoneV_fun x k L n hK) (CtOK_nil (P := Tryz.prog) (Gl := Gs))
  refine Fun_cc _ mo Tryz.func23 (by decide) cc23 rs23 Tryz.ntmps23 (by simp) (AW_run hct 1000 ?_)
  simp (maxSteps := 10000000) (disch := omega) only [go_sem, c23, ct1, trV, trC, reduceIte, seval, -BitVec.isValue, -BitVec.reduceOfNat, -List.reduceReplicate]
  try simp
theorem xaddV_all (x : Xms) (k : XKey) (hK : KOK x k) (hh : x.h.toNat ≤ 4) : Fun Tryz.prog Gs 25 [trV x k (stk (2 ^ x.h.toNat) 0) (2 ^ x.h.toNat : Nat)] (.i 6) := by
  have hH := xms_h hK.ok
  have h1 := one2 hK
  obtain ⟨P, hP⟩ : ∃ P, P = 2 ^ x.h.toNat := ⟨_, rfl⟩
  have hP16 : P ≤ 16 := by rw [hP]; exact Nat.pow_le_pow_right (n := 2) (by omega) hh
  rw [← hP] at h1 ⊢
  have hct := ct1_ok (xnoneV_fun x k (stk P 0) P hK) (CtOK_nil (P := Tryz.prog) (Gl := Gs))
  refine Fun_cc _ mo Tryz.func25 (by decide) cc25 rs25 Tryz.ntmps25 (by simp) (AW_run hct 1000 ?_)
  simp (maxSteps := 10000000) (disch := omega) only [go_sem, c25, ct1, trV, trC, h1, reduceIte, seval, -BitVec.isValue, -BitVec.reduceOfNat, -List.reduceReplicate]
  try simp
set_option maxHeartbeats 2000000 in
theorem xadd_funG (x : Xms) (k : XKey) (n : Nat) (hK : KOK x k) (hh : x.h.toNat ≤ 4) (h : n < 2 ^ x.h.toNat) :
    FunG Tryz.prog Gs 25 [.ptr 0 0] [(0, ⟨trC x k (.sl 1 0 (stk n 0).length 3) n, false⟩), (1, ⟨stC x k (stk n 0), false⟩)] (.i 0) [(0, ⟨trC x k (.sl 2 0 (stk (n + 1) 0).length 3) ((n + 1 : Nat) : Int), false⟩), (2, ⟨stC x k (stk (n + 1) 0), false⟩)] := by
  have hH := xms_h hK.ok
  have h1 := one2 hK
  obtain ⟨P, hP⟩ : ∃ P, P = 2 ^ x.h.toNat := ⟨_, rfl⟩
  have hP16 : P ≤ 16 := by rw [hP]; exact Nat.pow_le_pow_right (n := 2) (by omega) hh
  rw [← hP] at h1 h
  have hlt : ¬ (P : Int) ≤ (n : Int) := by omega
  have hstl : (stC x k (stk n 0)).take ((stk n 0).length * 3) = stC x k (stk n 0) := List.take_of_length_le (by rw [stC_len]; omega)
  have hct := ct1_ok (xnoneV_fun x k (stk n 0) n hK) (CtOK_nil (P := Tryz.prog) (Gl := Gs))
  have hg := growsA_funG x k n hK (by omega)
  refine FunG_cc [ctNoneV x k (stk n 0) n] [0, 1] 2 mo Tryz.func25 (by decide) cc25 rs25 Tryz.ntmps25 (by simp) rfl (by decide) rfl ?_
  refine AW_run hct 1000 ?_
  simp (maxSteps := 10000000) (disch := omega) only [go_sem, c25, ctNoneV, ct1, trV, trC, h1, eq_false hlt, hstl, reduceIte, seval, -BitVec.isValue, -BitVec.reduceOfNat, -List.reduceReplicate]
  refine AW_callGd [(0, 0), (1, 1)] [(3, 2)] 3 [] false [] [] (by simp only [go_sem, reduceIte, seval, -BitVec.isValue, -BitVec.reduceOfNat, -List.reduceReplicate]) (by simp only [go_sem, reduceIte, seval, -BitVec.isValue, -BitVec.reduceOfNat, -List.reduceReplicate]) hg (by rfl) (.inr rfl) (by simp only [go_sem, reduceIte, seval, -BitVec.isValue, -BitVec.reduceOfNat, -List.reduceReplicate]) (by rfl) (by simp only [go_sem, reduceIte, seval, -BitVec.isValue, -BitVec.reduceOfNat, -List.reduceReplicate]; try simp) (by simp only [go_sem, trC, reduceIte, seval, -BitVec.isValue, -BitVec.reduceOfNat, -List.reduceReplicate]; try simp) (by simp only [go_sem, reduceIte, seval, -BitVec.isValue, -BitVec.reduceOfNat, -List.reduceReplicate]) (by simp only [go_sem, trC, reduceIte, seval, -BitVec.isValue, -BitVec.reduceOfNat, -List.reduceReplicate]) ?_
  refine AW_ct [] (AW_run (CtOK_nil (P := Tryz.prog) (Gl := Gs)) 1000 ?_)
  simp (maxSteps := 10000000) (disch := omega) only [go_sem, trC, reduceIte, seval, -BitVec.isValue, -BitVec.reduceOfNat, -List.reduceReplicate]
  try simp
end Go.Lv
