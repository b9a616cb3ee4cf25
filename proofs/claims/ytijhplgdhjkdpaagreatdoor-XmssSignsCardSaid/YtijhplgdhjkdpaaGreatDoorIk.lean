/- A part of the proof. -/
import Derived.Test.YtijhplgdhjkdpaaGreatDoorIj
import Derived.Test.YtijhplgdhjkdpaaGreatDoorIh
import Derived.Test.YtijhplgdhjkdpaaGreatDoorGI
import Derived.Test.YtijhplgdhjkdpaaGreatDoorHy
import Derived.Test.YtijhplgdhjkdpaaGreatDoorId
import Derived.Test.YtijhplgdhjkdpaaGreatDoorGG
import Derived.Test.YtijhplgdhjkdpaaGreatDoorGK
set_option linter.all false
namespace Go.Lv
open Go Go.Proofs
set_option linter.unusedSimpArgs false
set_option maxRecDepth 100000

/-! ## Root, path, public key, signature: the reference -/
def ctRRows : Nat × (List AV → R) := (23, A2 fun (x : Xms) (k : XKey) => (KOK x k ∧ x.h.toNat ≤ 4, .ros true (x.h.toNat + 1) ((rowsS x k (x.h.toNat + 1)).map Enc.enc)))
theorem ctRRows_ok {Ct : List (Nat × (List AV → R))} (h : CtOK Tryz.prog Gs Ct) : CtOK Tryz.prog Gs (ctRRows :: Ct) := CtOK_cons (Row2 fun x k h => rRows_fun x k h.1 h.2) h
theorem rows_at (x : Xms) (k : XKey) (n h : Nat) (hh : h < n) : (((rowsS x k n).map Enc.enc).drop h).getD 0 .junk = .ros false (rowS x k h).length ((rowS x k h).map Enc.enc) ∧ (Option.map Enc.enc (rowsS x k n)[h]?).getD .junk = .ros false (rowS x k h).length ((rowS x k h).map Enc.enc) := by
  have hl := rowsS_len x k n
  have h1 : (rowsS x k n)[h]? = some (rowS x k h) := by
    have := rowsS_get x k n h hh
    rw [List.getD_eq_getElem?_getD] at this
    rw [List.getElem?_eq_getElem (by omega)] at this ⊢
    exact congrArg some this
  have h2 : (Option.map Enc.enc (rowsS x k n)[h]?).getD .junk = .ros false (rowS x k h).length ((rowS x k h).map Enc.enc) := by rw [h1]; rfl
  refine ⟨?_, h2⟩
  rw [List.getD_eq_getElem?_getD, List.getElem?_drop, List.getElem?_map, Nat.add_zero, h2]
def ctRRoot1 (x : Xms) (k : XKey) : Nat × (List AV → R) := (24, fun a => (a = [Enc.enc (rowsS x k (x.h.toNat + 1))], Enc.enc (rootS x k)))
theorem rRoot_fun (x : Xms) (k : XKey) (hK : KOK x k) (hh : x.h.toNat ≤ 4) : Fun Tryz.prog Gs 24 [Enc.enc (rowsS x k (x.h.toNat + 1))] (Enc.enc (rootS x k)) := by
  have hrl := rowsS_len x k (x.h.toNat + 1)
  have e1 : ((x.h.toNat + 1 : Nat) : Int) - 1 = (x.h.toNat : Int) := by omega
  have g1 := rowsS_get x k (x.h.toNat + 1) x.h.toNat (by omega)
  have g2 := rowS_get x k x.h.toNat 0 (Nat.pow_pos (by omega))
  have g2' : (rowS x k x.h.toNat).getD 0 [] = rootS x k := g2
  have l1 : (rowS x k x.h.toNat).length = 1 := by rw [rowS_len]; simp
  obtain ⟨gA, gB⟩ := rows_at x k (x.h.toNat + 1) x.h.toNat (by omega)
  refine Fun_cc [] mo Tryz.func24 (by decide) cc24 rs24 Tryz.ntmps24 (by simp) (AW_run CtOK_nil 1000 ?_)
  simp (maxSteps := 10000000) (disch := omega) only [go_sem, c24, hrl, e1, gA, gB, g2', l1, reduceIte, seval, -BitVec.isValue, -BitVec.reduceOfNat, -List.reduceReplicate]
  try simp
theorem ctRRoot1_ok {x : Xms} {k : XKey} (hK : KOK x k) (hh : x.h.toNat ≤ 4) {Ct : List (Nat × (List AV → R))} (h : CtOK Tryz.prog Gs Ct) : CtOK Tryz.prog Gs (ctRRoot1 x k :: Ct) := CtOK_cons (fun a e => by
  have e : a = [Enc.enc (rowsS x k (x.h.toNat + 1))] := e
  subst e; exact rRoot_fun x k hK hh) h
def pthP (x : Xms) (k : XKey) (i h : Nat) : By := ends h fun t => nodeAt x k.seed k.pub t ((i / 2 ^ t) ^^^ 1)
def σrp (x : Xms) (k : XKey) (i h : Nat) : St :=
  ⟨[(1, .u32 (BitVec.ofNat 32 (i / 2 ^ h))), (5, .sl 0 0 (pthP x k i h).length 1), (14, Enc.enc (rowsS x k x.h.toNat)), (15, .i x.h.toNat), (16, .i h)], [(0, ⟨(pthP x k i h).map .u8, true⟩)], 1⟩
set_option maxHeartbeats 4000000 in
theorem rPath_fun (x : Xms) (k : XKey) (i : Nat) (hK : KOK x k) (hh : x.h.toNat ≤ 4) (hi : i < 2 ^ x.h.toNat) : Fun Tryz.prog Gs 26 [Enc.enc (rowsS x k (x.h.toNat + 1)), Enc.enc (BitVec.ofNat 32 i)] (Enc.ret (pathS x k.seed k.pub i)) := by
  have hx := hK.ok
  have hx32 := hK.n
  have hn0 := CtOK_nil (P := Tryz.prog) (Gl := Gs)
  have hrl := rowsS_len x k (x.h.toNat + 1)
  have hrl0 := rowsS_len x k x.h.toNat
  have e1 : ((x.h.toNat + 1 : Nat) : Int) - 1 = (x.h.toNat : Int) := by omega
  have htk : (rowsS x k (x.h.toNat + 1)).take x.h.toNat = rowsS x k x.h.toNat := by rw [rowsS_succ, List.take_left' (by rw [hrl0])]
  have hml : min x.h.toNat (x.h.toNat + 1) = x.h.toNat := by omega
  have hnl := nodeAt_len hx k.seed k.pub
  have h16 : i < 16 := Nat.lt_of_lt_of_le hi (Nat.pow_le_pow_right (n := 2) (by omega) hh)
  have hm4 : x.h.toNat * x.n.toNat ≤ 4 * 32 := Nat.mul_le_mul (by omega) (by omega)
  refine Fun_cc [] mo Tryz.func26 (by decide) cc26 rs26 Tryz.ntmps26 (by simp) (AW_run hn0 1000 ?_)
  simp (maxSteps := 10000000) (disch := omega) only [go_sem, c26, hrl, e1, htk, hml, hrl0, reduceIte, seval, -BitVec.isValue, -BitVec.reduceOfNat, -List.reduceReplicate]
  refine AW_loop (σrp x k i) (fun h => h ≤ x.h.toNat) (fun h => x.h.toNat - h) 0 (Nat.zero_le _) (Wk_p [] ?_) fun h hhl => ?_
  · simp only [go_sem, σrp, hrl0, reduceIte, seval, -BitVec.isValue, -BitVec.reduceOfNat, -List.reduceReplicate]
    try simp [pthP, ends, hrl0]
    try (rw [← List.map_take, htk])
  · have hpl : (pthP x k i h).length = h * x.n.toNat := ends_len _ (fun t => hnl t _) h
    have hpl2 : (pthP x k i (h + 1)).length = (h + 1) * x.n.toNat := ends_len _ (fun t => hnl t _) (h + 1)
    have hroom : h * x.n.toNat ≤ x.h.toNat * x.n.toNat := Nat.mul_le_mul_right _ hhl
    by_cases hc : h < x.h.toNat
    · have hc' : (h : Int) < (x.h.toNat : Int) := by omega
      have hroom2 : (h + 1) * x.n.toNat ≤ x.h.toNat * x.n.toNat := Nat.mul_le_mul_right _ hc
      have hq : i / 2 ^ h < 2 ^ (x.h.toNat - h) := by
        rw [Nat.div_lt_iff_lt_mul (Nat.pow_pos (by omega)), ← Nat.pow_add, show x.h.toNat - h + h = x.h.toNat by omega]; exact hi
      have hq16 : i / 2 ^ h < 16 := Nat.lt_of_le_of_lt (Nat.div_le_self _ _) h16
      obtain ⟨q, hqq⟩ : ∃ q, q = i / 2 ^ h := ⟨_, rfl⟩
      have hq2 : i / 2 ^ (h + 1) = q / 2 := by rw [hqq, Nat.pow_succ, Nat.div_div_eq_div_mul]
      rw [← hqq] at hq hq16
      have hdv := div32 q (by omega)
      have hmd := mod32 q (by omega)
      have hdv' : BitVec.ofNat 32 q / (2 : BitVec 32) = BitVec.ofNat 32 (q / 2) := hdv
      have hmd' : BitVec.ofNat 32 q % (2 : BitVec 32) = BitVec.ofNat 32 (q % 2) := hmd
      have hrg := rowsS_get x k x.h.toNat h hc
      have hrw := rowS_len x k h
      have heven : 2 ^ (x.h.toNat - h) % 2 = 0 := by rw [show x.h.toNat - h = (x.h.toNat - h - 1) + 1 by omega, Nat.pow_succ]; omega
      have hs : pthP x k i (h + 1) = pthP x k i h ++ nodeAt x k.seed k.pub h (q ^^^ 1) := by rw [pthP, ends_succ, hqq]; rfl
      have tq : (BitVec.ofNat 32 q).toNat = q := by rw [BitVec.toNat_ofNat]; omega
      have tq1 : (BitVec.ofNat 32 (q + 1)).toNat = q + 1 := by rw [BitVec.toNat_ofNat]; omega
      have a1 : BitVec.ofNat 32 q + 1#32 = BitVec.ofNat 32 (q + 1) := (BitVec.ofNat_add q 1).symm
      have a1' : BitVec.ofNat 32 q + (1 : BitVec 32) = BitVec.ofNat 32 (q + 1) := a1
      obtain ⟨gA, gB⟩ := rows_at x k x.h.toNat h hc
      obtain ⟨W, hW⟩ : ∃ W, W = 2 ^ (x.h.toNat - h) := ⟨_, rfl⟩
      rw [← hW] at hrw heven hq
      by_cases he : q % 2 = 1
      · have sb := sib_odd q hq16 he
        have hg := rowS_get x k h (q - 1) (by omega)
        have tm1 : (BitVec.ofNat 32 (q - 1)).toNat = q - 1 := by rw [BitVec.toNat_ofNat]; omega
        have m1 : BitVec.ofNat 32 q - 1#32 = BitVec.ofNat 32 (q - 1) := by
          apply BitVec.eq_of_toNat_eq
          rw [BitVec.toNat_sub, tq, tm1, show (1#32).toNat = 1 from rfl]; omega
        have m1' : BitVec.ofNat 32 q - (1 : BitVec 32) = BitVec.ofNat 32 (q - 1) := m1
        rw [sb] at hs
        rw [he] at hmd hmd'
        have hl1 := hnl h (q - 1)
        refine AW_ct [] (AW_run hn0 1000 ?_)
        simp (maxSteps := 10000000) (disch := omega) only [go_sem, σrp, hc', hrl0, ← hqq, hdv, hdv', hmd, hmd', gA, gB, hrw, a1, a1', m1, m1', tq1, tm1, hg, hl1, hpl, reduceIte, seval, -BitVec.isValue, -BitVec.reduceOfNat, -List.reduceReplicate]
        refine ⟨h + 1, by omega, Wk_p [(0, 1)] ?_, by omega⟩
        simp only [go_sem, σrp, hs, hq2, hrl0, hpl2, reduceIte, seval, -BitVec.isValue, -BitVec.reduceOfNat, -List.reduceReplicate]
        try simp [hl1, hpl, hrl0]
      · have he0 : q % 2 = 0 := by omega
        have sb := sib_even q hq16 he0
        have hg := rowS_get x k h (q + 1) (by omega)
        rw [sb] at hs
        rw [he0] at hmd hmd'
        have hl1 := hnl h (q + 1)
        refine AW_ct [] (AW_run hn0 1000 ?_)
        simp (maxSteps := 10000000) (disch := omega) only [go_sem, σrp, hc', hrl0, ← hqq, hdv, hdv', hmd, hmd', gA, gB, hrw, a1, a1', tq1, hg, hl1, hpl, reduceIte, seval, -BitVec.isValue, -BitVec.reduceOfNat, -List.reduceReplicate]
        refine ⟨h + 1, by omega, Wk_p [(0, 1)] ?_, by omega⟩
        simp only [go_sem, σrp, hs, hq2, hrl0, hpl2, reduceIte, seval, -BitVec.isValue, -BitVec.reduceOfNat, -List.reduceReplicate]
        try simp [hl1, hpl, hrl0]
    · have hge : h = x.h.toNat := by omega
      subst hge
      have hS : pthP x k i x.h.toNat = pathS x k.seed k.pub i := rfl
      have htp : (pthP x k i x.h.toNat).take (x.h.toNat * x.n.toNat) = pathS x k.seed k.pub i := by rw [List.take_of_length_le (by omega), hS]
      have hSl := pathS_len hx k.seed k.pub i
      have htm : ((pathS x k.seed k.pub i).map AV.u8).take (x.h.toNat * x.n.toNat) = (pathS x k.seed k.pub i).map AV.u8 := List.take_of_length_le (by rw [List.length_map]; omega)
      refine AW_ct [] (AW_run hn0 1000 ?_)
      simp (maxSteps := 10000000) (disch := omega) only [go_sem, σrp, hrl0, hpl, htp, hS, hSl, htm, reduceIte, seval, -BitVec.isValue, -BitVec.reduceOfNat, -List.reduceReplicate]
      try simp
end Go.Lv
