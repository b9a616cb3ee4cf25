/- A part of the proof. -/
import Derived.Test.YtijhplgdhjkdpaaGreatDoorIc
import Derived.Test.YtijhplgdhjkdpaaGreatDoorGI
import Derived.Test.YtijhplgdhjkdpaaGreatDoorGK
set_option linter.all false
namespace Go.Lv
open Go Go.Proofs
set_option linter.unusedSimpArgs false
set_option maxRecDepth 100000

/-! ## The way up from a leaf -/
theorem div32w (m : Nat) (h : m < 4294967296) : BitVec.ofNat 32 m / 2#32 = BitVec.ofNat 32 (m / 2) := by
  apply BitVec.eq_of_toNat_eq
  have e1 : (BitVec.ofNat 32 m).toNat = m := by rw [BitVec.toNat_ofNat]; omega
  have e2 : (BitVec.ofNat 32 (m / 2)).toNat = m / 2 := by rw [BitVec.toNat_ofNat]; omega
  have e3 : (2#32).toNat = 2 := rfl
  rw [BitVec.toNat_udiv, e1, e2, e3]
theorem mod32w (m : Nat) (h : m < 4294967296) : BitVec.ofNat 32 m % 2#32 = BitVec.ofNat 32 (m % 2) := by
  apply BitVec.eq_of_toNat_eq
  have e1 : (BitVec.ofNat 32 m).toNat = m := by rw [BitVec.toNat_ofNat]; omega
  have e2 : (BitVec.ofNat 32 (m % 2)).toNat = m % 2 := by rw [BitVec.toNat_ofNat]; omega
  have e3 : (2#32).toNat = 2 := rfl
  rw [BitVec.toNat_umod, e1, e2, e3]
theorem shr32 (i : BitVec 32) (h : Nat) : i >>> h = BitVec.ofNat 32 (i.toNat / 2 ^ h) := by
  apply BitVec.eq_of_toNat_eq
  have := i.isLt
  have hd : i.toNat / 2 ^ h ≤ i.toNat := Nat.div_le_self _ _
  rw [BitVec.toNat_ushiftRight, BitVec.toNat_ofNat, Nat.shiftRight_eq_div_pow, Nat.mod_eq_of_lt (by omega)]
theorem and1 (m : Nat) : BitVec.ofNat 32 m &&& 1#32 = BitVec.ofNat 32 (m % 2) := by
  apply BitVec.eq_of_toNat_eq
  have e2 : (BitVec.ofNat 32 (m % 2)).toNat = m % 2 := by rw [BitVec.toNat_ofNat]; omega
  have e3 : (1#32).toNat = 1 := rfl
  rw [BitVec.toNat_and, BitVec.toNat_ofNat, e2, e3, Nat.and_one_is_mod]
  omega
def σgu (x : Xms) (pb p : By) (i : BitVec 32) (b : By) (h : Nat) : St :=
  ⟨[(1, Enc.enc pb), (2, Enc.enc (climbS x pb i.toNat p h b)), (3, Enc.enc p), (4, Enc.enc i), (5, .ptr 0 0), (15, .i x.h), (16, .i h)], [(0, ⟨xmC x, true⟩)], 1⟩
set_option maxHeartbeats 4000000 in
theorem up_fun (x : Xms) (pb b p : By) (i : BitVec 32) (hx : xmsT x.code = some x) (hpb : pb.length ≤ 10000000) (hb : b.length = x.n.toNat) (hp : p.length = x.h.toNat * x.n.toNat) :
    Fun Tryz.prog Gs 74 [Enc.enc x, Enc.enc pb, Enc.enc b, Enc.enc p, Enc.enc i] (Enc.enc (climbS x pb i.toNat p x.h.toNat b)) := by
  have hx32 := xms_len hx
  have hH := xms_h hx
  have hn0 := CtOK_nil (P := Tryz.prog) (Gl := Gs)
  have hxn : x.n = (x.n.toNat : Int) := by omega
  have hxh : x.h = (x.h.toNat : Int) := by omega
  have hm4 : x.h.toNat * x.n.toNat ≤ 20 * 32 := Nat.mul_le_mul (by omega) (by omega)
  refine Fun_cc [] mo Tryz.func74 (by decide) cc74 rs74 Tryz.ntmps74 (by simp) (AW_run hn0 1000 ?_)
  simp (maxSteps := 10000000) (disch := omega) only [go_sem, c74, xmC, reduceIte, seval, -BitVec.isValue, -BitVec.reduceOfNat, -List.reduceReplicate]
  refine AW_loop (σgu x pb p i b) (fun h => (h : Int) ≤ x.h) (fun h => x.h.toNat - h) 0 (by simp; omega) (Wk_p [] ?_) fun h hhl => ?_
  · simp only [go_sem, σgu, xmC, climbS, reduceIte, seval, -BitVec.isValue, -BitVec.reduceOfNat, -List.reduceReplicate]
    try simp
  · have hcl := climbS_len hx pb i.toNat p h b hb
    by_cases hc : (h : Int) < x.h
    · have hroom : h * x.n.toNat + x.n.toNat ≤ x.h.toNat * x.n.toNat := by rw [← Nat.succ_mul]; exact Nat.mul_le_mul_right _ (by omega)
      have q1 : (h : Int) * x.n = ((h * x.n.toNat : Nat) : Int) := by rw [Int.natCast_mul, ← hxn]
      have q2 : ((h : Int) + 1) * x.n = ((h * x.n.toNat + x.n.toNat : Nat) : Int) := by rw [Int.add_mul, q1, Int.one_mul]; omega
      have q3 : h * x.n.toNat + x.n.toNat - h * x.n.toNat = x.n.toNat := by omega
      have hsp : (p.drop (h * x.n.toNat)).take x.n.toNat = sigP x p h := rfl
      have hsl := sigP_len x p h (by rw [Nat.succ_mul]; omega)
      have q4 : (h : Int) + 1 = ((h + 1 : Nat) : Int) := by omega
      have s1 := shr32 i h
      have s2 := shr32 i (h + 1)
      have a1 := and1 (i.toNat / 2 ^ h)
      have a1' : BitVec.ofNat 32 (i.toNat / 2 ^ h) &&& (1 : BitVec 32) = BitVec.ofNat 32 (i.toNat / 2 ^ h % 2) := a1
      have hoh := oi32 h
      have hwe : ([.u32 0, .u32 0, .u32 0, .u32 2, .u32 0, .u32 (BitVec.ofNat 32 h), .u32 (BitVec.ofNat 32 (i.toNat / 2 ^ (h + 1))), .u32 0] : List AV) = (adT h (i.toNat / 2 ^ (h + 1))).map .u32 := rfl
      have hwe' : ([.u32 0#32, .u32 0#32, .u32 0#32, .u32 2#32, .u32 0#32, .u32 (BitVec.ofNat 32 h), .u32 (BitVec.ofNat 32 (i.toNat / 2 ^ (h + 1))), .u32 0#32] : List AV) = (adT h (i.toNat / 2 ^ (h + 1))).map .u32 := rfl
      have hwl : ([0#32, 0#32, 0#32, 2#32, 0#32, BitVec.ofNat 32 h, BitVec.ofNat 32 (i.toNat / 2 ^ (h + 1)), 0#32] : List (BitVec 32)) = adT h (i.toNat / 2 ^ (h + 1)) := rfl
      have hal : (adT h (i.toNat / 2 ^ (h + 1))).length = 8 := rfl
      obtain ⟨cur, hcur⟩ : ∃ cur, cur = climbS x pb i.toNat p h b := ⟨_, rfl⟩
      obtain ⟨sb, hsb⟩ : ∃ sb, sb = sigP x p h := ⟨_, rfl⟩
      have hstep : climbS x pb i.toNat p (h + 1) b = if i.toNat / 2 ^ h % 2 = 0 then nodeS x pb (adT h (i.toNat / 2 ^ (h + 1))) cur sb else nodeS x pb (adT h (i.toNat / 2 ^ (h + 1))) sb cur := by rw [climbS, ← hcur, ← hsb]
      rw [← hcur] at hcl
      rw [← hsb] at hsp hsl
      have hct2 := ctNode_ok hn0
      by_cases he : i.toNat / 2 ^ h % 2 = 0
      · rw [if_pos he] at hstep
        rw [he] at a1 a1'
        have hnl := nodeS_len hx pb (adT h (i.toNat / 2 ^ (h + 1))) cur sb
        refine AW_ct [ctNode] (AW_run hct2 1000 ?_)
        simp (maxSteps := 10000000) (disch := omega) only [go_sem, σgu, xmC, ← hcur, hc, q1, q2, q3, hsp, hsl, hcl, s1, s2, a1, a1', hoh, ctNode, hwe, hwe', hal, hx, hnl, List.set_cons_zero, List.set_cons_succ, reduceIte, seval, -BitVec.isValue, -BitVec.reduceOfNat, -List.reduceReplicate]
        refine ⟨h + 1, by omega, Wk_uf 99 [2] (Wk_p [] ?_), by omega⟩
        simp only [go_sem, σgu, xmC, ufF, ufH, hstep, hnl, reduceIte, seval, -BitVec.isValue, -BitVec.reduceOfNat, -List.reduceReplicate]
        simp [s2, hwl, hnl]
      · have he1 : i.toNat / 2 ^ h % 2 = 1 := by omega
        rw [if_neg he] at hstep
        rw [he1] at a1 a1'
        have hnl := nodeS_len hx pb (adT h (i.toNat / 2 ^ (h + 1))) sb cur
        refine AW_ct [ctNode] (AW_run hct2 1000 ?_)
        simp (maxSteps := 10000000) (disch := omega) only [go_sem, σgu, xmC, ← hcur, hc, q1, q2, q3, hsp, hsl, hcl, s1, s2, a1, a1', hoh, ctNode, hwe, hwe', hal, hx, hnl, List.set_cons_zero, List.set_cons_succ, reduceIte, seval, -BitVec.isValue, -BitVec.reduceOfNat, -List.reduceReplicate]
        refine ⟨h + 1, by omega, Wk_uf 99 [2] (Wk_p [] ?_), by omega⟩
        simp only [go_sem, σgu, xmC, ufF, ufH, hstep, hnl, reduceIte, seval, -BitVec.isValue, -BitVec.reduceOfNat, -List.reduceReplicate]
        simp [s2, hwl, hnl]
    · have hge : h = x.h.toNat := by omega
      subst hge
      refine AW_ct [] (AW_run hn0 1000 ?_)
      simp (maxSteps := 10000000) (disch := omega) only [go_sem, σgu, xmC, hc, reduceIte, seval, -BitVec.isValue, -BitVec.reduceOfNat, -List.reduceReplicate]
      try simp
def ctUp : Nat × (List AV → R) := (74, A5 fun (x : Xms) (pb b p : By) (i : BitVec 32) => (xmsT x.code = some x ∧ pb.length ≤ 10000000 ∧ b.length = x.n.toNat ∧ p.length = x.h.toNat * x.n.toNat, Enc.enc (climbS x pb i.toNat p x.h.toNat b)))
theorem ctUp_ok {Ct : List (Nat × (List AV → R))} (h : CtOK Tryz.prog Gs Ct) : CtOK Tryz.prog Gs (ctUp :: Ct) := CtOK_cons (Row5 fun x pb b p i h => up_fun x pb b p i h.1 h.2.1 h.2.2.1 h.2.2.2) h
end Go.Lv
