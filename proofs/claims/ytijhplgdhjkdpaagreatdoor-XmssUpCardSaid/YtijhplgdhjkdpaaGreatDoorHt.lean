/- A part of the proof. -/
import Derived.Test.YtijhplgdhjkdpaaGreatDoorHs
import Derived.Test.YtijhplgdhjkdpaaGreatDoorGK
set_option linter.all false
namespace Go.Lv
open Go Go.Proofs
set_option linter.unusedSimpArgs false
set_option maxRecDepth 100000

/-! ## A whole tree -/
def σwh (x : Xms) (k : XKey) (i n : Nat) : St :=
  ⟨[(3, .ptr 0 0), (5, .ptr 2 0), (8, .ptr 3 0), (9, .ptr 5 0), (22, .i (2 ^ x.h.toNat : Nat)), (23, .i n)],
   [(0, ⟨xmC x, true⟩), (2, ⟨[.u32 (BitVec.ofNat 32 i)], true⟩), (3, ⟨trC x k (.sl 6 0 (stk n 0).length 3) n, true⟩), (4, ⟨(pathC x k.seed k.pub i n 0).map .u8, true⟩), (5, ⟨[.sl 4 0 (x.h.toNat * x.n.toNat) 1], true⟩), (6, ⟨stC x k (stk n 0), false⟩)], 7⟩
set_option maxHeartbeats 8000000 in
theorem whole_fun (x : Xms) (k : XKey) (i : Nat) (hK : KOK x k) (hh : x.h.toNat ≤ 4) (hi : i < 2 ^ x.h.toNat) :
    Fun Tryz.prog Gs 48 [Enc.enc x, Enc.enc k, Enc.enc (BitVec.ofNat 32 i)] (.tup [Enc.enc (nodeAt x k.seed k.pub x.h.toNat 0), Enc.ret (pathS x k.seed k.pub i)]) := by
  have hx32 := hK.n
  have hH := xms_h hK.ok
  have h16 : 2 ^ x.h.toNat ≤ 16 := Nat.pow_le_pow_right (n := 2) (by omega) hh
  have hi16 : i < 16 := by omega
  have hm4 : x.h.toNat * x.n.toNat ≤ 4 * 32 := Nat.mul_le_mul (by omega) (by omega)
  have hxn : x.n = (x.n.toNat : Int) := by omega
  have hxh : x.h = (x.h.toNat : Int) := by omega
  have q1 : x.h * x.n = ((x.h.toNat * x.n.toNat : Nat) : Int) := by rw [Int.natCast_mul, ← hxn, ← hxh]
  have hpz := path_zero (x := x) k.seed k.pub hi16 hh
  have hn0 := CtOK_nil (P := Tryz.prog) (Gl := Gs)
  refine Fun_cc [] mo Tryz.func48 (by decide) cc48 rs48 Tryz.ntmps48 (by simp) ?_
  have h1s : (1 : Int) * 2 ^ x.h.toNat = ((2 ^ x.h.toNat : Nat) : Int) := by simp
  have hsz : stC x k (stk 0 0) = [] := by rw [stk_zero]; rfl
  have hlz : (stk 0 0).length = 0 := by rw [stk_zero]; rfl
  obtain ⟨P, hP⟩ : ∃ P, P = 2 ^ x.h.toNat := ⟨_, rfl⟩
  have hσ : ∀ n, σwh x k i n = ⟨[(3, .ptr 0 0), (5, .ptr 2 0), (8, .ptr 3 0), (9, .ptr 5 0), (22, .i (P : Int)), (23, .i n)],
   [(0, ⟨xmC x, true⟩), (2, ⟨[.u32 (BitVec.ofNat 32 i)], true⟩), (3, ⟨trC x k (.sl 6 0 (stk n 0).length 3) n, true⟩), (4, ⟨(pathC x k.seed k.pub i n 0).map .u8, true⟩), (5, ⟨[.sl 4 0 (x.h.toNat * x.n.toNat) 1], true⟩), (6, ⟨stC x k (stk n 0), false⟩)], 7⟩ := fun n => by rw [hP]; rfl
  have hpa := path_all (x := x) k.seed k.pub hh hi
  have hsa := stk_all x.h.toNat (by omega)
  rw [← hP] at h1s h16 hi hpa hsa
  refine AW_run hn0 1000 ?_
  simp (maxSteps := 10000000) (disch := omega) only [go_sem, c48, xmC, q1, h1s, reduceIte, seval, -BitVec.isValue, -BitVec.reduceOfNat, -List.reduceReplicate]
  refine AW_nulC 3 8 3 (seg := ⟨trC x k .nils 0, true⟩) (by simp only [go_sem, trC, reduceIte, seval, -BitVec.isValue, -BitVec.reduceOfNat, -List.reduceReplicate]) (by rfl) (by simp only; omega) ?_
  refine AW_loop (σwh x k i) (fun n => n ≤ P) (fun n => P - n) 0 (Nat.zero_le _) (Wk_p [] ?_) fun n hn => ?_
  · simp only [go_sem, hσ, mapH, trC, xmC, hsz, hlz, hpz, List.set_cons_zero, List.set_cons_succ, reduceIte, seval, -BitVec.isValue, -BitVec.reduceOfNat, -List.reduceReplicate]
    try simp
  · by_cases hc : n < P
    · have hc' : (n : Int) < (P : Int) := by omega
      have hg := growsW_funG x k i n hK hi16 (by omega) hh
      refine AW_ct [] (AW_run hn0 1000 ?_)
      simp (maxSteps := 10000000) (disch := omega) only [go_sem, hσ, trC, xmC, hc', reduceIte, seval, -BitVec.isValue, -BitVec.reduceOfNat, -List.reduceReplicate]
      refine AW_callGd [(0, 3), (1, 6), (2, 0), (3, 2), (4, 5), (5, 4)] [(7, 7)] 8 [] false [] [] (by simp only [go_sem, reduceIte, seval, -BitVec.isValue, -BitVec.reduceOfNat, -List.reduceReplicate]) (by simp only [go_sem, reduceIte, seval, -BitVec.isValue, -BitVec.reduceOfNat, -List.reduceReplicate]) hg (by rfl) (.inr rfl) (by simp only [go_sem, reduceIte, seval, -BitVec.isValue, -BitVec.reduceOfNat, -List.reduceReplicate]) (by rfl) (by simp only [go_sem, tw, reduceIte, seval, -BitVec.isValue, -BitVec.reduceOfNat, -List.reduceReplicate]; try simp) (by simp only [go_sem, trC, twH, xmC, reduceIte, seval, -BitVec.isValue, -BitVec.reduceOfNat, -List.reduceReplicate]; try simp) (by simp only [go_sem, reduceIte, seval, -BitVec.isValue, -BitVec.reduceOfNat, -List.reduceReplicate]) (by simp only [go_sem, trC, twH, xmC, reduceIte, seval, -BitVec.isValue, -BitVec.reduceOfNat, -List.reduceReplicate]) ?_
      refine AW_ct [] (AW_run hn0 1000 ?_)
      simp (maxSteps := 10000000) (disch := omega) only [go_sem, trC, twH, xmC, reduceIte, seval, -BitVec.isValue, -BitVec.reduceOfNat, -List.reduceReplicate]
      refine ⟨n + 1, by omega, Wk_p [(6, 7)] ?_, by omega⟩
      simp only [go_sem, hσ, trC, xmC, reduceIte, seval, -BitVec.isValue, -BitVec.reduceOfNat, -List.reduceReplicate]
      try simp
    · have : n = P := by omega
      subst this
      have hpl := pathS_len hK.ok k.seed k.pub i
      have hst : stC x k (stk n 0) = [.i x.h.toNat, .u32 (BitVec.ofNat 32 0), Enc.enc (nodeAt x k.seed k.pub x.h.toNat 0)] := by rw [hsa]; rfl
      have hsl : (stk n 0).length = 1 := by rw [hsa]; rfl
      have hpt : (pathS x k.seed k.pub i).take (x.h.toNat * x.n.toNat) = pathS x k.seed k.pub i := List.take_of_length_le (by omega)
      refine AW_ct [] (AW_run hn0 1000 ?_)
      simp (maxSteps := 10000000) (disch := omega) only [go_sem, hσ, trC, xmC, hpa, hst, hsl, hpl, hpt, reduceIte, seval, -BitVec.isValue, -BitVec.reduceOfNat, -List.reduceReplicate]
      try simp
end Go.Lv
