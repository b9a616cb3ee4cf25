/- A part of the proof. -/
import Derived.Test.YtijhplgdhjkdpaaGreatDoorGI
import Derived.Test.YtijhplgdhjkdpaaGreatDoorGJ
import Derived.Test.YtijhplgdhjkdpaaGreatDoorGK
set_option linter.all false
namespace Go.Lv
open Go Go.Proofs
set_option linter.unusedSimpArgs false
set_option maxRecDepth 100000

/-! ## The tree's nodes, height by height -/
@[go_sem] theorem z_BB (H : List (Nat × Seg)) (k : Nat) (fl : Bool) (l : List (List By)) : (l.map Enc.enc).map (frz H (k + 3) fl) = l.map Enc.enc := by
  cases fl
  · exact (fz_map H (k + 3) (show Enc.d (List By) ≤ k + 3 by show 1 + 1 + 1 ≤ k + 3; omega) l).1
  · exact (fz_map H (k + 3) (show Enc.d (List By) ≤ k + 3 by show 1 + 1 + 1 ≤ k + 3; omega) l).2.2.2
theorem enc_rows (y : List By) : (Enc.enc y : AV) = .ros false y.length (y.map Enc.enc) := rfl
def rowN (x : Xms) (k : XKey) (j n : Nat) : List By := (List.range n).map (nodeAt x k.seed k.pub j)
def rowS (x : Xms) (k : XKey) (j : Nat) : List By := rowN x k j (2 ^ (x.h.toNat - j))
def rowsS (x : Xms) (k : XKey) (n : Nat) : List (List By) := (List.range n).map (rowS x k)
theorem rowN_len (x : Xms) (k : XKey) (j n : Nat) : (rowN x k j n).length = n := by simp [rowN]
theorem rowS_len (x : Xms) (k : XKey) (j : Nat) : (rowS x k j).length = 2 ^ (x.h.toNat - j) := rowN_len _ _ _ _
theorem rowsS_len (x : Xms) (k : XKey) (n : Nat) : (rowsS x k n).length = n := by simp [rowsS]
theorem rowN_succ (x : Xms) (k : XKey) (j n : Nat) : rowN x k j (n + 1) = rowN x k j n ++ [nodeAt x k.seed k.pub j n] := by simp [rowN, List.range_succ]
theorem rowsS_succ (x : Xms) (k : XKey) (n : Nat) : rowsS x k (n + 1) = rowsS x k n ++ [rowS x k n] := by simp [rowsS, List.range_succ]
theorem rowS_get (x : Xms) (k : XKey) (j i : Nat) (h : i < 2 ^ (x.h.toNat - j)) : (rowS x k j).getD i [] = nodeAt x k.seed k.pub j i := by
  simp [rowS, rowN, List.getD_eq_getElem?_getD, h]
theorem rowsS_get (x : Xms) (k : XKey) (n i : Nat) (h : i < n) : (rowsS x k n).getD i [] = rowS x k i := by
  simp [rowsS, List.getD_eq_getElem?_getD, h]
def σrwA (x : Xms) (k : XKey) (P i : Nat) : St :=
  ⟨[(2, .ptr 0 0), (3, .ptr 1 0), (5, .sl 2 0 (rowN x k 0 i).length 1), (15, .u32 (BitVec.ofNat 32 P)), (16, .u32 (BitVec.ofNat 32 i))], [(0, ⟨xmC x, true⟩), (1, ⟨[Enc.enc k.seed, Enc.enc k.prf, Enc.enc k.pub], true⟩), (2, ⟨(rowN x k 0 i).map Enc.enc, true⟩)], 3⟩
def σrwB (x : Xms) (k : XKey) (p : Nat) : St :=
  ⟨[(2, .ptr 0 0), (3, .ptr 1 0), (5, Enc.enc (rowS x k p)), (7, .sl 2 0 (rowsS x k (p + 1)).length 1), (8, .i (p + 1 : Nat))], [(0, ⟨xmC x, true⟩), (1, ⟨[Enc.enc k.seed, Enc.enc k.prf, Enc.enc k.pub], true⟩), (2, ⟨(rowsS x k (p + 1)).map Enc.enc, true⟩)], 3⟩
def σrwC (x : Xms) (k : XKey) (p i : Nat) : St :=
  ⟨[(2, .ptr 0 0), (3, .ptr 1 0), (5, Enc.enc (rowS x k p)), (7, .sl 2 0 (rowsS x k (p + 1)).length 1), (8, .i (p + 1 : Nat)), (9, .sl 3 0 (rowN x k (p + 1) i).length 1), (10, .i (2 * i : Nat))], [(0, ⟨xmC x, true⟩), (1, ⟨[Enc.enc k.seed, Enc.enc k.prf, Enc.enc k.pub], true⟩), (2, ⟨(rowsS x k (p + 1)).map Enc.enc, true⟩), (3, ⟨(rowN x k (p + 1) i).map Enc.enc, true⟩)], 4⟩
set_option maxHeartbeats 8000000 in
theorem rRows_fun (x : Xms) (k : XKey) (hK : KOK x k) (hh : x.h.toNat ≤ 4) :
    Fun Tryz.prog Gs 23 [Enc.enc x, Enc.enc k] (.ros true (x.h.toNat + 1) ((rowsS x k (x.h.toNat + 1)).map Enc.enc)) := by
  have hx := hK.ok
  have hx32 := hK.n
  have hkb := hK.b
  have hH := xms_h hx
  have hn0 := CtOK_nil (P := Tryz.prog) (Gl := Gs)
  have hxh : x.h = (x.h.toNat : Int) := by omega
  have hcv : (BitVec.ofInt 64 x.h).toNat = x.h.toNat := by
    rw [show x.h = ((x.h.toNat : Nat) : Int) by omega, BitVec.ofInt_natCast, BitVec.toNat_ofNat]
    omega
  obtain ⟨P, hP⟩ : ∃ P, P = 2 ^ x.h.toNat := ⟨_, rfl⟩
  have hP16 : P ≤ 16 := by rw [hP]; exact Nat.pow_le_pow_right (n := 2) (by omega) hh
  have hsh : (1 : BitVec 32) <<< x.h.toNat = BitVec.ofNat 32 P := by
    apply BitVec.eq_of_toNat_eq
    rw [BitVec.toNat_shiftLeft, Nat.shiftLeft_eq, BitVec.toNat_ofNat, hP]
    show (1 * 2 ^ x.h.toNat) % 2 ^ 32 = _
    rw [Nat.one_mul]
  have hsh' : 1#32 <<< x.h.toNat = BitVec.ofNat 32 P := hsh
  have hs32 : ∀ i : Nat, BitVec.ofNat 32 i + 1#32 = BitVec.ofNat 32 (i + 1) := fun i => (BitVec.ofNat_add i 1).symm
  have hs32' : ∀ i : Nat, BitVec.ofNat 32 i + (1 : BitVec 32) = BitVec.ofNat 32 (i + 1) := hs32
  refine Fun_cc [] mo Tryz.func23 (by decide) cc23 rs23 Tryz.ntmps23 (by simp) (AW_run hn0 1000 ?_)
  simp (maxSteps := 10000000) (disch := omega) only [go_sem, c23, xmC, hcv, hsh, hsh', reduceIte, seval, -BitVec.isValue, -BitVec.reduceOfNat, -List.reduceReplicate]
  refine AW_loop (σrwA x k P) (fun i => i ≤ P) (fun i => P - i) 0 (Nat.zero_le _) (Wk_p [] ?_) fun i hi => ?_
  · simp only [go_sem, σrwA, xmC, reduceIte, seval, -BitVec.isValue, -BitVec.reduceOfNat, -List.reduceReplicate]
    try simp [rowN]
  · have hlen := rowN_len x k 0 i
    by_cases hc : i < P
    · have hlt : BitVec.ofNat 32 i < BitVec.ofNat 32 P := by
        rw [BitVec.lt_def, BitVec.toNat_ofNat, BitVec.toNat_ofNat]; omega
      have hnode : leafS x k.seed k.pub (BitVec.ofNat 32 i) = nodeAt x k.seed k.pub 0 i := by rw [nodeAt]
      have hnl := nodeAt_len hx k.seed k.pub 0 i
      have hsu := rowN_succ x k 0 i
      have hct := ctRXLeaf_ok hn0
      refine AW_ct [ctRXLeaf] (AW_run hct 1000 ?_)
      simp (maxSteps := 10000000) (disch := omega) only [go_sem, σrwA, xmC, eq_true hlt, ctRXLeaf, hK, hnode, hs32, hs32', reduceIte, seval, -BitVec.isValue, -BitVec.reduceOfNat, -List.reduceReplicate]
      refine ⟨i + 1, by omega, Wk_p [(2, 4)] ?_, by omega⟩
      simp only [go_sem, σrwA, xmC, hsu, List.map_append, reduceIte, seval, -BitVec.isValue, -BitVec.reduceOfNat, -List.reduceReplicate]
      try simp [hnl, enc_By]
    · have hge : i = P := by omega
      subst hge
      have hlt : ¬ BitVec.ofNat 32 i < BitVec.ofNat 32 i := BitVec.lt_irrefl _
      have hr0 : rowN x k 0 i = rowS x k 0 := by rw [hP]; rfl
      have htk : (rowN x k 0 i).take i = rowS x k 0 := by rw [List.take_of_length_le (by omega), hr0]
      have hrl : (rowS x k 0).length = i := by rw [← hr0, hlen]
      have hr1 : rowsS x k 1 = [rowS x k 0] := rfl
      refine AW_freeze 2 [5] (seg := ⟨(rowN x k 0 i).map Enc.enc, true⟩) (by simp only [go_sem, σrwA, reduceIte, seval, -BitVec.isValue, -BitVec.reduceOfNat, -List.reduceReplicate]) rfl ?_
      refine AW_ct [] (AW_run hn0 1000 ?_)
      simp (maxSteps := 10000000) (disch := omega) only [go_sem, σrwA, xmC, frzF, eq_false hlt, hlen, reduceIte, seval, -BitVec.isValue, -BitVec.reduceOfNat, -List.reduceReplicate]
      refine AW_loop (σrwB x k) (fun p => p ≤ x.h.toNat) (fun p => x.h.toNat - p) 0 (Nat.zero_le _) (Wk_uf 3 [5] (Wk_p [(2, 3)] ?_)) fun p hp => ?_
      · simp only [go_sem, σrwB, xmC, ufF, ufH, hr1, reduceIte, seval, -BitVec.isValue, -BitVec.reduceOfNat, -List.reduceReplicate]
        simp [htk, hrl, enc_rows]
      · by_cases hq : p < x.h.toNat
        · have hq' : ((p + 1 : Nat) : Int) ≤ x.h := by omega
          obtain ⟨Q, hQ⟩ : ∃ Q, Q = 2 ^ (x.h.toNat - (p + 1)) := ⟨_, rfl⟩
          have hQQ : 2 ^ (x.h.toNat - p) = 2 * Q := by rw [hQ, show x.h.toNat - p = (x.h.toNat - (p + 1)) + 1 by omega, Nat.pow_succ, Nat.mul_comm]
          have hQ8 : Q ≤ 16 := by rw [hQ]; exact Nat.pow_le_pow_right (n := 2) (by omega) (by omega : x.h.toNat - (p + 1) ≤ 4)
          have hrlp : (rowS x k p).length = 2 * Q := by rw [rowS_len, hQQ]
          have hrsl := rowsS_len x k (p + 1)
          refine AW_ct [] (AW_run hn0 1000 ?_)
          simp (maxSteps := 10000000) (disch := omega) only [go_sem, σrwB, xmC, eq_true hq', hrlp, hrsl, reduceIte, seval, -BitVec.isValue, -BitVec.reduceOfNat, -List.reduceReplicate]
          refine AW_loop (σrwC x k p) (fun i => i ≤ Q) (fun i => Q - i) 0 (Nat.zero_le _) (Wk_p [] ?_) fun i hi => ?_
          · simp only [go_sem, σrwC, xmC, hrlp, hrsl, reduceIte, seval, -BitVec.isValue, -BitVec.reduceOfNat, -List.reduceReplicate]
            try simp [rowN]
          · have hlen2 := rowN_len x k (p + 1) i
            by_cases hil : i < Q
            · have hil' : ((2 * i : Nat) : Int) < ((2 * Q : Nat) : Int) := by omega
              have a1 := rowS_get x k p (2 * i) (by omega)
              have a2 := rowS_get x k p (2 * i + 1) (by omega)
              have l1 := nodeAt_len hx k.seed k.pub p (2 * i)
              have l2 := nodeAt_len hx k.seed k.pub p (2 * i + 1)
              have l3 := nodeAt_len hx k.seed k.pub (p + 1) i
              have e0 : ((p + 1 : Nat) : Int) - 1 = (p : Int) := by omega
              have e1 : ((2 * i : Nat) : Int) / 2 = (i : Int) := by omega
              have e2 : ((2 * i : Nat) : Int) + 1 = ((2 * i + 1 : Nat) : Int) := by omega
              have e3 : ((2 * i + 1 : Nat) : Int) < ((2 * Q : Nat) : Int) := by omega
              have o1 := oi32 p
              have o2 := oi32 i
              have had : adK (BitVec.ofInt 32 2) (0 : BitVec 32) (BitVec.ofNat 32 p) (BitVec.ofNat 32 i) = adT p i := rfl
              have had' : adK 2#32 (0 : BitVec 32) (BitVec.ofNat 32 p) (BitVec.ofNat 32 i) = adT p i := rfl
              have hal : (adT p i).length = 8 := rfl
              have hat : (adT p i).take 8 = adT p i := rfl
              have hnode : nodeS x k.pub (adT p i) (nodeAt x k.seed k.pub p (2 * i)) (nodeAt x k.seed k.pub p (2 * i + 1)) = nodeAt x k.seed k.pub (p + 1) i := by rw [nodeAt]
              have hsu := rowN_succ x k (p + 1) i
              have hct := ctRXAt_ok (ctRNode_ok hn0)
              refine AW_ct [ctRXAt, ctRNode] (AW_run hct 1000 ?_)
              simp (maxSteps := 10000000) (disch := omega) only [go_sem, σrwC, ctRXAt, ctRNode, xmC, hx, hrlp, hil', e0, e1, e2, e3, o1, o2, had, had', hal, hat, a1, a2, l1, l2, l3, hnode, hkb, Int.tdiv_eq_ediv_of_nonneg, reduceIte, seval, -BitVec.isValue, -BitVec.reduceOfNat, -List.reduceReplicate]
              refine ⟨i + 1, by omega, Wk_uf 5 [] (Wk_p [(3, 5)] ?_), by omega⟩
              simp only [go_sem, σrwC, xmC, ufF, ufH, hsu, List.map_append, hrlp, reduceIte, seval, -BitVec.isValue, -BitVec.reduceOfNat, -List.reduceReplicate]
              simp [l3, enc_By]
              try omega
            · have hie : i = Q := by omega
              subst hie
              have hil' : ¬ ((2 * i : Nat) : Int) < ((2 * i : Nat) : Int) := by omega
              have hrn : rowN x k (p + 1) i = rowS x k (p + 1) := by rw [hQ]; rfl
              have htk2 : (rowN x k (p + 1) i).take i = rowS x k (p + 1) := by rw [List.take_of_length_le (by omega), hrn]
              have hrl2 : (rowS x k (p + 1)).length = i := by rw [← hrn, hlen2]
              have hrs := rowsS_succ x k (p + 1)
              refine AW_freeze 3 [9] (seg := ⟨(rowN x k (p + 1) i).map Enc.enc, true⟩) (by simp only [go_sem, σrwC, reduceIte, seval, -BitVec.isValue, -BitVec.reduceOfNat, -List.reduceReplicate]) rfl ?_
              refine AW_ct [] (AW_run hn0 1000 ?_)
              simp (maxSteps := 10000000) (disch := omega) only [go_sem, σrwC, xmC, frzF, hrlp, eq_false hil', hlen2, hrsl, reduceIte, seval, -BitVec.isValue, -BitVec.reduceOfNat, -List.reduceReplicate]
              refine ⟨p + 1, by omega, Wk_uf 5 [5] (Wk_p [(2, 5)] ?_), by omega⟩
              simp only [go_sem, σrwB, xmC, ufF, ufH, hrs, List.map_append, hrsl, reduceIte, seval, -BitVec.isValue, -BitVec.reduceOfNat, -List.reduceReplicate]
              simp [htk2, hrl2, enc_rows]
              try omega
        · have hge : p = x.h.toNat := by omega
          subst hge
          have hq' : ¬ ((x.h.toNat + 1 : Nat) : Int) ≤ x.h := by omega
          have hrsl := rowsS_len x k (x.h.toNat + 1)
          have htk3 : (rowsS x k (x.h.toNat + 1)).take (x.h.toNat + 1) = rowsS x k (x.h.toNat + 1) := List.take_of_length_le (by omega)
          have htk4 : ((rowsS x k (x.h.toNat + 1)).map Enc.enc).take (x.h.toNat + 1) = (rowsS x k (x.h.toNat + 1)).map Enc.enc := by rw [← List.map_take, htk3]
          refine AW_ct [] (AW_run hn0 1000 ?_)
          simp (maxSteps := 10000000) (disch := omega) only [go_sem, σrwB, xmC, eq_false hq', hrsl, htk4, reduceIte, seval, -BitVec.isValue, -BitVec.reduceOfNat, -List.reduceReplicate]
          try (rw [z_BB _ 4 true])
          try simp [htk4]
end Go.Lv
