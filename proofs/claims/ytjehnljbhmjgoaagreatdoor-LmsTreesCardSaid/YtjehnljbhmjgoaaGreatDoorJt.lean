/- A part of the proof. -/
import Derived.Test.YtjehnljbhmjgoaaGreatDoorGN
import Derived.Test.YtjehnljbhmjgoaaGreatDoorGK
set_option linter.all false
namespace Go.Lv
open Go Go.Proofs
set_option linter.unusedSimpArgs false
set_option maxRecDepth 100000
theorem rRootL_fun (l : Lms) (o : Ots) (id seed : By) (hk : LKok ⟨l, o, id, seed⟩) : Fun Tryz.prog Gs 53 [Enc.enc l, Enc.enc o, Enc.enc (⟨id⟩ : Ar (BitVec 8)), Enc.enc seed] (Enc.ret (lroot ⟨l, o, id, seed⟩)) := by
  have hid : id.length = 16 := hk.i
  have hit : id.take 16 = id := List.take_of_length_le (by omega)
  have hr : rOK ⟨l, o, id, seed⟩ l.h.toNat 1#64 := by
    refine ⟨?_, ?_⟩ <;> simp
  have hr' : rOK ⟨l, o, id, seed⟩ l.h.toNat (1 : BitVec 64) := hr
  have hv : lnode ⟨l, o, id, seed⟩ l.h.toNat ((1 : BitVec 64).toNat - 2 ^ (l.h.toNat - l.h.toNat)) = lroot ⟨l, o, id, seed⟩ := by simp [lroot]
  have hv' : lnode ⟨l, o, id, seed⟩ l.h.toNat (1 - 2 ^ (l.h.toNat - l.h.toNat)) = lroot ⟨l, o, id, seed⟩ := by simp [lroot]
  have hv2 : lnode ⟨l, o, id, seed⟩ l.h.toNat 0 = lroot ⟨l, o, id, seed⟩ := rfl
  have hct := ctRAtL_ok (k := ⟨l, o, id, seed⟩) (h := l.h.toNat) hk (Nat.le_refl _) (CtOK_nil (P := Tryz.prog) (Gl := Gs))
  refine Fun_cc _ mo Tryz.func53 (by decide) cc53 rs53 Tryz.ntmps53 (by simp) (AW_run hct 1000 ?_)
  simp (maxSteps := 10000000) (disch := omega) only [go_sem, c53, ctRAtL, hid, hit, eq_true hr, eq_true hr', hv, hv', hv2, reduceIte, seval, -BitVec.isValue, -BitVec.reduceOfNat, -List.reduceReplicate]
  try simp [hv2]
def ctRRootL : Nat × (List AV → R) := (53, A4 fun (l : Lms) (o : Ots) (id : Ar (BitVec 8)) (seed : By) => (LKok ⟨l, o, id.l, seed⟩, Enc.ret (lroot ⟨l, o, id.l, seed⟩)))
theorem ctRRootL_ok {Ct : List (Nat × (List AV → R))} (h : CtOK Tryz.prog Gs Ct) : CtOK Tryz.prog Gs (ctRRootL :: Ct) := CtOK_cons (Row4 fun l o id s h => rRootL_fun l o id.l s h) h
theorem lW_gt {H q j : Nat} (hH : H ≤ 25) (hq : q < 2 ^ H) (hj : j ≤ H) : (1#64 < lW H j (q / 2 ^ j)) ↔ j < H := by
  have h25 : 2 ^ H ≤ 2 ^ 25 := Nat.pow_le_pow_right (n := 2) (by omega) hH
  have hd : q / 2 ^ j ≤ q := Nat.div_le_self _ _
  have e1 : (1#64).toNat = 1 := rfl
  rw [BitVec.lt_def, e1, lW_nat hH (by omega)]
  constructor
  · intro h
    rcases Nat.lt_or_ge j H with h1 | h1
    · exact h1
    · have : j = H := by omega
      subst this
      rw [Nat.div_eq_of_lt hq] at h
      simp at h
  · intro h
    have : 2 ^ 1 ≤ 2 ^ (H - j) := Nat.pow_le_pow_right (n := 2) (by omega) (by omega)
    exact Nat.lt_of_lt_of_le this (Nat.le_add_right _ _)
theorem w_sub {r : BitVec 64} {P x : Nat} (hr : r.toNat = P + x) (h : x % 2 = 1) : (r - 1#64).toNat = P + (x - 1) := by
  have := r.isLt
  rw [BitVec.toNat_sub, hr, show (1#64).toNat = 1 from rfl]; omega
theorem w_add {r : BitVec 64} {P x : Nat} (hr : r.toNat = P + x) (h : P + x < 1000) : (r + 1#64).toNat = P + (x + 1) := by
  rw [BitVec.toNat_add, hr, show (1#64).toNat = 1 from rfl]; omega
theorem w_lo {P x : Nat} (h : x < P) (he : x % 2 = 1) : P ≤ P + (x - 1) ∧ P + (x - 1) < P * 2 := by omega
theorem w_hi {P Q x : Nat} (h : x < P) (hP : P = 2 * Q) (he : ¬ x % 2 = 1) : P ≤ P + (x + 1) ∧ P + (x + 1) < P * 2 := by omega
def σlpa (k : LK) (q j : Nat) : St :=
  ⟨[(3, Enc.enc k.sd), (5, .ptr 0 0), (6, .ptr 1 0), (7, .ptr 2 0), (11, Enc.enc (lpath k q j)), (12, .u64 (lW k.l.h.toNat j (q / 2 ^ j)))],
   [(2, ⟨k.id.map .u8, true⟩), (1, ⟨[.u32 k.o.code, .b k.o.shake, .i k.o.n, .i k.o.w, .i k.o.p, .i k.o.ls], true⟩), (0, ⟨[.u32 k.l.code, .b k.l.shake, .i k.l.n, .i k.l.h], true⟩)], 3⟩
set_option maxHeartbeats 4000000 in
theorem rPathL_fun (k : LK) (q : BitVec 32) (hk : LKok k) (hH : k.l.h.toNat ≤ 4) (hq : q.toNat < 2 ^ k.l.h.toNat) : Fun Tryz.prog Gs 55 [Enc.enc k.l, Enc.enc k.o, Enc.enc (⟨k.id⟩ : Ar (BitVec 8)), Enc.enc k.sd, Enc.enc q] (Enc.enc (lpath k q.toNat k.l.h.toNat)) := by
  have hid : k.id.length = 16 := hk.i
  have hit : k.id.take 16 = k.id := List.take_of_length_le (by omega)
  have hsm : lmsSm k.l := hk.sm
  have hon := hk.o.n
  have hn0 := CtOK_nil (P := Tryz.prog) (Gl := Gs)
  have h00 := lW_0 (H := k.l.h.toNat) (by omega) hq
  have h0 : lW k.l.h.toNat 0 (q.toNat / 2 ^ 0) = lW k.l.h.toNat 0 q.toNat := by simp
  have hct := mark_ok 14 (ctLeaves_ok hn0)
  refine Fun_cc [mark 14, ctLeaves] mo Tryz.func55 (by decide) cc55 rs55 Tryz.ntmps55 (by simp) (AW_run hct 1000 ?_)
  simp (maxSteps := 10000000) (disch := omega) only [go_sem, c55, mark, ctLeaves, hid, hit, hsm, h00, reduceIte, seval, -BitVec.isValue, -BitVec.reduceOfNat, -List.reduceReplicate]
  refine AW_loop (σlpa k q.toNat) (fun j => j ≤ k.l.h.toNat) (fun j => k.l.h.toNat - j) 0 (Nat.zero_le _) (Wk_uf 99 [11] (Wk_p [] ?_)) fun j hj => ?_
  · have e0 : lpath k q.toNat 0 = [] := rfl
    simp only [go_sem, σlpa, ufF, ufH, e0, h0, reduceIte, seval, -BitVec.isValue, -BitVec.reduceOfNat, -List.reduceReplicate]
    try simp
  · have hgt := lW_gt (H := k.l.h.toNat) (q := q.toNat) (j := j) (by omega) hq hj
    have hpl := lpath_len hk q.toNat j
    by_cases hc : j < k.l.h.toNat
    · have hc' := hgt.2 hc
      have hc2 : (1 : BitVec 64) < lW k.l.h.toNat j (q.toNat / 2 ^ j) := hc'
      obtain ⟨s1, s2⟩ := lW_step (H := k.l.h.toNat) (q := q.toNat) (j := j) (by omega) hq hc
      have s1' : lW k.l.h.toNat j (q.toNat / 2 ^ j) / (2 : BitVec 64) = lW k.l.h.toNat (j + 1) (q.toNat / 2 ^ (j + 1)) := s1
      have h16 : 2 ^ k.l.h.toNat ≤ 2 ^ 4 := Nat.pow_le_pow_right (n := 2) (by omega) hH
      have hx16 : q.toNat / 2 ^ j < 16 := Nat.lt_of_le_of_lt (Nat.div_le_self _ _) (by omega)
      have hw := lW_nat (H := k.l.h.toNat) (h := j) (j := q.toNat / 2 ^ j) (by omega) (by omega)
      have hhalf : q.toNat / 2 ^ j < 2 ^ (k.l.h.toNat - j) := by
        rw [Nat.div_lt_iff_lt_mul (Nat.pow_pos (by omega)), ← Nat.pow_add, show k.l.h.toNat - j + j = k.l.h.toNat by omega]; exact hq
      have hev : 2 ^ (k.l.h.toNat - j) = 2 * 2 ^ (k.l.h.toNat - (j + 1)) := by rw [show k.l.h.toNat - j = (k.l.h.toNat - (j + 1)) + 1 by omega, Nat.pow_succ, Nat.mul_comm]
      have hsc := lpath_succ k q.toNat j
      have hnl := lnode_len hk j ((q.toNat / 2 ^ j) ^^^ 1)
      have hm : (j + 1) * k.o.n.toNat ≤ 4 * 32 := Nat.mul_le_mul (by omega) (by omega)
      have hsm2 : (j + 1) * k.o.n.toNat = j * k.o.n.toNat + k.o.n.toNat := Nat.succ_mul _ _
      have hP16 : 2 ^ (k.l.h.toNat - j) ≤ 2 ^ 4 := Nat.pow_le_pow_right (n := 2) (by omega) (by omega)
      have hff : [lpath k q.toNat j, lnode k j ((q.toNat / 2 ^ j) ^^^ 1)].flatten = lpath k q.toNat (j + 1) := by rw [hsc]; simp
      have hpl1 := lpath_len hk q.toNat (j + 1)
      have hfl : (lpath k q.toNat (j + 1)).length ≤ 140737488351232 := by omega
      have hct2 := mark_ok 38 (ctRAtL_ok hk (Nat.le_of_lt hc) (ctJoin_ok hn0))
      by_cases he : q.toNat / 2 ^ j % 2 = 1
      · have s3 := s2.2 he
        have s3' : lW k.l.h.toNat j (q.toNat / 2 ^ j) % (2 : BitVec 64) = 1#64 := s3
        have hx := lsib_odd _ hx16 he
        have t1 : (lW k.l.h.toNat j (q.toNat / 2 ^ j) - 1#64).toNat = 2 ^ (k.l.h.toNat - j) + (q.toNat / 2 ^ j - 1) := w_sub hw he
        have o1 : rOK k j (lW k.l.h.toNat j (q.toNat / 2 ^ j) - 1#64) := by rw [rOK, t1]; exact w_lo hhalf he
        have o1' : rOK k j (lW k.l.h.toNat j (q.toNat / 2 ^ j) - (1 : BitVec 64)) := o1
        have v1 : lnode k j ((lW k.l.h.toNat j (q.toNat / 2 ^ j) - 1#64).toNat - 2 ^ (k.l.h.toNat - j)) = lnode k j ((q.toNat / 2 ^ j) ^^^ 1) := by rw [t1, hx, Nat.add_sub_cancel_left]
        have v1' : lnode k j ((lW k.l.h.toNat j (q.toNat / 2 ^ j) - (1 : BitVec 64)).toNat - 2 ^ (k.l.h.toNat - j)) = lnode k j ((q.toNat / 2 ^ j) ^^^ 1) := v1
        refine AW_ct [mark 38, ctRAtL k j, ctJoin] (AW_run hct2 1000 ?_)
        simp (maxSteps := 10000000) (disch := omega) only [go_sem, σlpa, mark, ctRAtL, ctJoin, hid, hit, eq_true hc', eq_true hc2, s3, s3', s1, s1', eq_true o1, eq_true o1', v1, v1', hff, hfl, deL_cons, deL_nil, reduceIte, seval, -BitVec.isValue, -BitVec.reduceOfNat, -List.reduceReplicate]
        refine ⟨j + 1, by omega, Wk_uf 99 [11] (Wk_p [] ?_), by omega⟩
        simp only [go_sem, σlpa, ufF, ufH, reduceIte, seval, -BitVec.isValue, -BitVec.reduceOfNat, -List.reduceReplicate]
        try simp
      · have s3 : ¬ lW k.l.h.toNat j (q.toNat / 2 ^ j) % 2#64 = 1#64 := fun e => he (s2.1 e)
        have s3' : ¬ lW k.l.h.toNat j (q.toNat / 2 ^ j) % (2 : BitVec 64) = 1#64 := s3
        have hx := lsib_even _ hx16 (by omega)
        have t1 : (lW k.l.h.toNat j (q.toNat / 2 ^ j) + 1#64).toNat = 2 ^ (k.l.h.toNat - j) + (q.toNat / 2 ^ j + 1) := w_add hw (by omega)
        have o1 : rOK k j (lW k.l.h.toNat j (q.toNat / 2 ^ j) + 1#64) := by rw [rOK, t1]; exact w_hi hhalf hev he
        have o1' : rOK k j (lW k.l.h.toNat j (q.toNat / 2 ^ j) + (1 : BitVec 64)) := o1
        have v1 : lnode k j ((lW k.l.h.toNat j (q.toNat / 2 ^ j) + 1#64).toNat - 2 ^ (k.l.h.toNat - j)) = lnode k j ((q.toNat / 2 ^ j) ^^^ 1) := by rw [t1, hx, Nat.add_sub_cancel_left]
        have v1' : lnode k j ((lW k.l.h.toNat j (q.toNat / 2 ^ j) + (1 : BitVec 64)).toNat - 2 ^ (k.l.h.toNat - j)) = lnode k j ((q.toNat / 2 ^ j) ^^^ 1) := v1
        refine AW_ct [mark 38, ctRAtL k j, ctJoin] (AW_run hct2 1000 ?_)
        simp (maxSteps := 10000000) (disch := omega) only [go_sem, σlpa, mark, ctRAtL, ctJoin, hid, hit, eq_true hc', eq_true hc2, eq_false s3, eq_false s3', s1, s1', eq_true o1, eq_true o1', v1, v1', hff, hfl, deL_cons, deL_nil, reduceIte, seval, -BitVec.isValue, -BitVec.reduceOfNat, -List.reduceReplicate]
        refine ⟨j + 1, by omega, Wk_uf 99 [11] (Wk_p [] ?_), by omega⟩
        simp only [go_sem, σlpa, ufF, ufH, reduceIte, seval, -BitVec.isValue, -BitVec.reduceOfNat, -List.reduceReplicate]
        try simp
    · have hc' : ¬ 1#64 < lW k.l.h.toNat j (q.toNat / 2 ^ j) := fun e => hc (hgt.1 e)
      have hc2 : ¬ (1 : BitVec 64) < lW k.l.h.toNat j (q.toNat / 2 ^ j) := hc'
      have hge : j = k.l.h.toNat := by omega
      subst hge
      refine AW_ct [] (AW_run hn0 1000 ?_)
      simp (maxSteps := 10000000) (disch := omega) only [go_sem, σlpa, eq_false hc', eq_false hc2, reduceIte, seval, -BitVec.isValue, -BitVec.reduceOfNat, -List.reduceReplicate]
      try simp
def ctRPathL : Nat × (List AV → R) := (55, A5 fun (l : Lms) (o : Ots) (id : Ar (BitVec 8)) (seed : By) (q : BitVec 32) => (LKok ⟨l, o, id.l, seed⟩ ∧ l.h.toNat ≤ 4 ∧ q.toNat < 2 ^ l.h.toNat, Enc.enc (lpath ⟨l, o, id.l, seed⟩ q.toNat l.h.toNat)))
theorem ctRPathL_ok {Ct : List (Nat × (List AV → R))} (h : CtOK Tryz.prog Gs Ct) : CtOK Tryz.prog Gs (ctRPathL :: Ct) := CtOK_cons (Row5 fun l o id s q h => rPathL_fun ⟨l, o, id.l, s⟩ q h.1 h.2.1 h.2.2) h
set_option maxHeartbeats 2000000 in
theorem rPubL_fun (l : Lms) (o : Ots) (id seed : By) (hk : LKok ⟨l, o, id, seed⟩) : Fun Tryz.prog Gs 54 [Enc.enc l, Enc.enc o, Enc.enc (⟨id⟩ : Ar (BitVec 8)), Enc.enc seed] (Enc.ret (lpubS' ⟨l, o, id, seed⟩)) := by
  have hid : id.length = 16 := hk.i
  have hit : id.take 16 = id := List.take_of_length_le (by omega)
  have hrl := lroot_len hk
  have hon : o.n = 24 ∨ o.n = 32 := hk.o.n
  have h4 := bigL_len (l.code.setWidth 64) 4
  have h5 := bigL_len (o.code.setWidth 64) 4
  have hf : [bigL (l.code.setWidth 64) 4, bigL (o.code.setWidth 64) 4, id, lroot ⟨l, o, id, seed⟩].flatten = lpubS' ⟨l, o, id, seed⟩ := by simp [lpubS', lroot]
  have hpl := lpubS'_len hk
  have hpl' : (lpubS' ⟨l, o, id, seed⟩).length ≤ 140737488351232 := by simp only at hpl; omega
  have hct := mark_ok 23 (ctRBig_ok (ctRRootL_ok (ctJoin_ok (CtOK_nil (P := Tryz.prog) (Gl := Gs)))))
  refine Fun_cc [] mo Tryz.func54 (by decide) cc54 rs54 Tryz.ntmps54 (by simp) (AW_run CtOK_nil 3 ?_)
  simp (maxSteps := 10000000) (disch := omega) only [go_sem, c54, hid, reduceIte, seval, -BitVec.isValue, -BitVec.reduceOfNat, -List.reduceReplicate]
  refine AW_freeze 2 [6] (seg := ⟨id.map .u8, true⟩) (by simp only [go_sem, reduceIte, seval, -BitVec.isValue, -BitVec.reduceOfNat, -List.reduceReplicate]) rfl (AW_ct [mark 23, ctRBig, ctRRootL, ctJoin] (AW_run hct 1000 ?_))
  simp (maxSteps := 10000000) (disch := omega) only [go_sem, frzF, mark, ctRBig, ctRRootL, ctJoin, hid, hit, hk, h4, h5, hrl, hf, hpl', deL_cons, deL_nil, reduceIte, seval, -BitVec.isValue, -BitVec.reduceOfNat, -List.reduceReplicate]
  try simp
def ctRPubL : Nat × (List AV → R) := (54, A4 fun (l : Lms) (o : Ots) (id : Ar (BitVec 8)) (seed : By) => (LKok ⟨l, o, id.l, seed⟩, Enc.ret (lpubS' ⟨l, o, id.l, seed⟩)))
theorem ctRPubL_ok {Ct : List (Nat × (List AV → R))} (h : CtOK Tryz.prog Gs Ct) : CtOK Tryz.prog Gs (ctRPubL :: Ct) := CtOK_cons (Row4 fun l o id s h => rPubL_fun l o id.l s h) h
theorem lsig_sm {k : LK} (hk : LKok k) (q : BitVec 32) (msg : By) : (lsigS k q msg).length ≤ 1000000 := by
  have hs := hk.sm
  have hon := hk.o.n
  have hop := hk.o.p
  have hol := otsLen_eq hk.ot
  have hlen := (lsig_parts hk q msg).2.2.2.2.1
  have e1 := (mul_sm (A := 25) (B := 32) hs.1 hs.2.1 hs.2.2.1 hs.2.2.2).2
  have e2 := (mul_sm (A := 32) (B := 266) (a := k.o.n) (b := k.o.p + 1) (by omega) (by omega) (by omega) (by omega)).2
  rw [lmsLen, if_pos hk.f, hol] at hlen
  omega
set_option maxHeartbeats 2000000 in
theorem rSignL_fun (l : Lms) (o : Ots) (id seed : By) (q : BitVec 32) (msg : By) (hk : LKok ⟨l, o, id, seed⟩) (hH : l.h.toNat ≤ 4) (hq : q.toNat < 2 ^ l.h.toNat) (hm : msg.length ≤ 100000000) : Fun Tryz.prog Gs 44 [Enc.enc l, Enc.enc o, Enc.enc (⟨id⟩ : Ar (BitVec 8)), Enc.enc seed, Enc.enc q, Enc.enc msg] (Enc.ret (lsigS ⟨l, o, id, seed⟩ q msg)) := by
  have hid : id.length = 16 := hk.i
  have hit : id.take 16 = id := List.take_of_length_le (by omega)
  have ho : OtsOK o := hk.o
  have hs : (seed.length : Int) = o.n := by have := hk.s; have := hk.n; simp only at *; omega
  have hf : [bigL (q.setWidth 64) 4, sigO o (hdS id q) seed msg, bigL (l.code.setWidth 64) 4, lpath ⟨l, o, id, seed⟩ q.toNat l.h.toNat].flatten = lsigS ⟨l, o, id, seed⟩ q msg := by simp [lsigS]
  have hlen' : (lsigS ⟨l, o, id, seed⟩ q msg).length ≤ 140737488351232 := by have := lsig_sm hk q msg; omega
  have h4 := bigL_len (q.setWidth 64) 4
  have h5 := bigL_len (l.code.setWidth 64) 4
  have hct := mark_ok 32 (ctRBig_ok (ctRSign_ok (ctRPathL_ok (ctJoin_ok (CtOK_nil (P := Tryz.prog) (Gl := Gs))))))
  refine Fun_cc [mark 32, ctRBig, ctRSign, ctRPathL, ctJoin] mo Tryz.func44 (by decide) cc44 rs44 Tryz.ntmps44 (by simp) (AW_run hct 1000 ?_)
  simp (maxSteps := 10000000) (disch := omega) only [go_sem, c44, mark, ctRBig, ctRSign, ctRPathL, ctJoin, hid, hit, hk, ho, hs, hH, hq, hm, h4, h5, hf, hlen', deL_cons, deL_nil, reduceIte, seval, -BitVec.isValue, -BitVec.reduceOfNat, -List.reduceReplicate]
  try simp
def ctRSignL : Nat × (List AV → R) := (44, A6 fun (l : Lms) (o : Ots) (id : Ar (BitVec 8)) (seed : By) (q : BitVec 32) (msg : By) => (LKok ⟨l, o, id.l, seed⟩ ∧ l.h.toNat ≤ 4 ∧ q.toNat < 2 ^ l.h.toNat ∧ msg.length ≤ 100000000, Enc.ret (lsigS ⟨l, o, id.l, seed⟩ q msg)))
theorem ctRSignL_ok {Ct : List (Nat × (List AV → R))} (h : CtOK Tryz.prog Gs Ct) : CtOK Tryz.prog Gs (ctRSignL :: Ct) := CtOK_cons (Row6 fun l o id s q m h => rSignL_fun l o id.l s q m h.1 h.2.1 h.2.2.1 h.2.2.2) h
end Go.Lv
