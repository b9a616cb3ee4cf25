/- A part of the proof (GO). -/
import Derived.Test.YtffmejeeddplaaaGreatDoorGN
import Derived.Test.YtffmejeeddplaaaGreatDoorGK
set_option linter.all false
namespace Go.Lv
open Go Go.Proofs
set_option linter.unusedSimpArgs false
set_option maxRecDepth 100000
set_option maxHeartbeats 2000000 in
theorem rLLeaf_fun (l : Lms) (o : Ots) (id seed : By) (q : BitVec 32) (hk : LKok ⟨l, o, id, seed⟩) (hq : q.toNat < 2 ^ l.h.toNat) : Fun Tryz.prog Gs 236 [Enc.enc l, Enc.enc o, Enc.enc (⟨id⟩ : Ar (BitVec 8)), Enc.enc seed, Enc.enc q] (Enc.ret (lnode ⟨l, o, id, seed⟩ 0 q.toNat)) := by
  have hid : id.length = 16 := hk.i
  have hit : id.take 16 = id := List.take_of_length_le (by omega)
  have hsm : lmsSm l := hk.sm
  obtain ⟨g1, g2, g3, g4⟩ := hk.sm
  have ho : OtsOK o := hk.o
  have hn : l.n = o.n := hk.n
  have hs : (seed.length : Int) = o.n := by have := hk.s; simp only at this; omega
  have hlw := lW_0 (H := l.h.toNat) (by simp only at g2; omega) hq
  have hpl : (lpubO o id q seed).length = o.n.toNat := by have h1 : ((lpubO o id q seed).length : Int) = o.n := hO_len ho _; omega
  have hon := ho.n
  have hf : [lpubO o id q seed].flatten = lpubO o id q seed := by simp
  have hii : BitVec.ofNat 32 q.toNat = q := by simp
  have hV : vS l id (lW l.h.toNat 0 q.toNat) 130 (lpubO o id q seed) = lnode ⟨l, o, id, seed⟩ 0 q.toNat := by
    rw [lnode]; simp only [hii]; exact vS_lf hk.f id _ _
  have hct := mark_ok 23 (ctLeaves_ok (ctRPublic_ok (ctRValue_ok (CtOK_nil (P := Tryz.prog) (Gl := Gs)))))
  refine Fun_cc [mark 23, ctLeaves, ctRPublic, ctRValue] mo Tryz.func236 (by decide) cc236 rs236 Tryz.ntmps236 (by simp) (AW_run hct 1000 ?_)
  simp (maxSteps := 10000000) (disch := omega) only [go_sem, c236, mark, ctLeaves, ctRPublic, ctRValue, hid, hit, hsm, ho, hs, hlw, hpl, hf, hV, deL_cons, deL_nil, reduceIte, seval, -BitVec.isValue, -BitVec.reduceOfNat, -List.reduceReplicate]
  try simp
def ctRLLeaf : Nat × (List AV → R) := (236, A5 fun (l : Lms) (o : Ots) (id : Ar (BitVec 8)) (seed : By) (q : BitVec 32) => (LKok ⟨l, o, id.l, seed⟩ ∧ q.toNat < 2 ^ l.h.toNat, Enc.ret (lnode ⟨l, o, id.l, seed⟩ 0 q.toNat)))
theorem ctRLLeaf_ok {Ct : List (Nat × (List AV → R))} (h : CtOK Tryz.prog Gs Ct) : CtOK Tryz.prog Gs (ctRLLeaf :: Ct) := CtOK_cons (Row5 fun l o id s q h => rLLeaf_fun l o id.l s q h.1 h.2) h
def rOK (k : LK) (h : Nat) (r : BitVec 64) : Prop := 2 ^ (k.l.h.toNat - h) ≤ r.toNat ∧ r.toNat < 2 ^ (k.l.h.toNat - h) * 2
def ctRAtL (k : LK) (h : Nat) : Nat × (List AV → R) := (191, A5 fun (l : Lms) (o : Ots) (id : Ar (BitVec 8)) (seed : By) (r : BitVec 64) => (l = k.l ∧ o = k.o ∧ id = ⟨k.id⟩ ∧ seed = k.sd ∧ rOK k h r, Enc.ret (lnode k h (r.toNat - 2 ^ (k.l.h.toNat - h)))))
set_option maxHeartbeats 4000000 in
theorem rAt_fun (k : LK) (hk : LKok k) : ∀ h, h ≤ k.l.h.toNat → ∀ (r : BitVec 64), rOK k h r →
    Fun Tryz.prog Gs 191 [Enc.enc k.l, Enc.enc k.o, Enc.enc (⟨k.id⟩ : Ar (BitVec 8)), Enc.enc k.sd, Enc.enc r] (Enc.ret (lnode k h (r.toNat - 2 ^ (k.l.h.toNat - h))))
  | 0, _, r, hr => by
    obtain ⟨r1, r2⟩ := hr
    rw [Nat.sub_zero] at r1 r2 ⊢
    have hid : k.id.length = 16 := hk.i
    have hit : k.id.take 16 = k.id := List.take_of_length_le (by omega)
    have hsm : lmsSm k.l := hk.sm
    obtain ⟨g1, g2, g3, g4⟩ := hk.sm
    have h25 : 2 ^ k.l.h.toNat ≤ 2 ^ 25 := Nat.pow_le_pow_right (n := 2) (by omega) (by omega)
    have hp : (pw k.l.h.toNat).toNat = 2 ^ k.l.h.toNat := by rw [pw, BitVec.toNat_ofNat]; exact Nat.mod_eq_of_lt (by omega)
    have hge : pw k.l.h.toNat ≤ r := by rw [BitVec.le_def, hp]; exact r1
    have hsub : (BitVec.setWidth 32 (r - pw k.l.h.toNat)).toNat = r.toNat - 2 ^ k.l.h.toNat := by
      have := r.isLt
      rw [BitVec.toNat_setWidth, BitVec.toNat_sub, hp]
      omega
    have hlt : r.toNat - 2 ^ k.l.h.toNat < 2 ^ k.l.h.toNat := by omega
    have hct := ctLeaves_ok (ctRLLeaf_ok (CtOK_nil (P := Tryz.prog) (Gl := Gs)))
    refine Fun_cc _ mo Tryz.func191 (by decide) cc191 rs191 Tryz.ntmps191 (by simp) (AW_run hct 1000 ?_)
    simp (maxSteps := 10000000) (disch := omega) only [go_sem, c191, ctLeaves, ctRLLeaf, hid, hit, hsm, hk, eq_true hge, hsub, hlt, reduceIte, seval, -BitVec.isValue, -BitVec.reduceOfNat, -List.reduceReplicate]
    try simp
  | h + 1, hh, r, hr => by
    obtain ⟨r1, r2⟩ := hr
    have ih := fun r a => rAt_fun k hk h (by omega) r a
    have hid : k.id.length = 16 := hk.i
    have hit : k.id.take 16 = k.id := List.take_of_length_le (by omega)
    have hsm : lmsSm k.l := hk.sm
    obtain ⟨g1, g2, g3, g4⟩ := hk.sm
    have h25 : 2 ^ k.l.h.toNat ≤ 2 ^ 25 := Nat.pow_le_pow_right (n := 2) (by omega) (by omega)
    have hp : (pw k.l.h.toNat).toNat = 2 ^ k.l.h.toNat := by rw [pw, BitVec.toNat_ofNat]; exact Nat.mod_eq_of_lt (by omega)
    have e0 : 2 ^ (k.l.h.toNat - h) = 2 ^ (k.l.h.toNat - (h + 1)) * 2 := by rw [← Nat.pow_succ, show (k.l.h.toNat - (h + 1)).succ = k.l.h.toNat - h by omega]
    have e1 : 2 ^ (k.l.h.toNat - h) ≤ 2 ^ k.l.h.toNat := Nat.pow_le_pow_right (n := 2) (by omega) (by omega)
    obtain ⟨P, hP⟩ : ∃ P, P = 2 ^ (k.l.h.toNat - (h + 1)) := ⟨_, rfl⟩
    rw [← hP] at r1 r2 e0 ⊢
    have hge : ¬ pw k.l.h.toNat ≤ r := by rw [BitVec.le_def, hp]; omega
    have t1 : (2#64 * r).toNat = 2 * r.toNat := by rw [BitVec.toNat_mul, show (2#64).toNat = 2 from rfl]; exact Nat.mod_eq_of_lt (by omega)
    have t2 : (2#64 * r + 1#64).toNat = 2 * r.toNat + 1 := by rw [BitVec.toNat_add, t1, show (1#64).toNat = 1 from rfl]; exact Nat.mod_eq_of_lt (by omega)
    have o1 : rOK k h (2#64 * r) := ⟨by rw [t1, e0]; omega, by rw [t1, e0]; omega⟩
    have o2 : rOK k h (2#64 * r + 1#64) := ⟨by rw [t2, e0]; omega, by rw [t2, e0]; omega⟩
    have o1' : rOK k h ((2 : BitVec 64) * r) := o1
    have o2' : rOK k h ((2 : BitVec 64) * r + (1 : BitVec 64)) := o2
    have v1 : (2#64 * r).toNat - 2 ^ (k.l.h.toNat - h) = 2 * (r.toNat - P) := by rw [t1, e0]; omega
    have v2 : (2#64 * r + 1#64).toNat - 2 ^ (k.l.h.toNat - h) = 2 * (r.toNat - P) + 1 := by rw [t2, e0]; omega
    have v1' : ((2 : BitVec 64) * r).toNat - 2 ^ (k.l.h.toNat - h) = 2 * (r.toNat - P) := v1
    have v2' : ((2 : BitVec 64) * r + (1 : BitVec 64)).toNat - 2 ^ (k.l.h.toNat - h) = 2 * (r.toNat - P) + 1 := v2
    have hl1 := lnode_len hk h (2 * (r.toNat - P))
    have hl2 := lnode_len hk h (2 * (r.toNat - P) + 1)
    have hon := hk.o.n
    have hrw : r = lW k.l.h.toNat (h + 1) (r.toNat - P) := by
      apply BitVec.eq_of_toNat_eq
      rw [lW_nat (by omega) (by omega), ← hP]; omega
    have hf : [lnode k h (2 * (r.toNat - P)), lnode k h (2 * (r.toNat - P) + 1)].flatten = lnode k h (2 * (r.toNat - P)) ++ lnode k h (2 * (r.toNat - P) + 1) := by simp
    have hV : vS k.l k.id r 131 (lnode k h (2 * (r.toNat - P)) ++ lnode k h (2 * (r.toNat - P) + 1)) = lnode k (h + 1) (r.toNat - P) := by
      rw [show vS k.l k.id r = vS k.l k.id (lW k.l.h.toNat (h + 1) (r.toNat - P)) from by rw [← hrw]]
      exact vS_nd hk.f k.id _ _ _
    have hfl2 : (lnode k h (2 * (r.toNat - P)) ++ lnode k h (2 * (r.toNat - P) + 1)).length ≤ 100000000 := by rw [List.length_append]; omega
    have hrow : CtOK Tryz.prog Gs [ctRAtL k h] := CtOK_cons (Row5 fun l o id s r hh => by
      obtain ⟨rfl, rfl, rfl, rfl, hr⟩ := hh
      exact ih r hr) CtOK_nil
    have hct := mark_ok 43 (ctLeaves_ok (ctRValue_ok hrow))
    refine Fun_cc [mark 43, ctLeaves, ctRValue, ctRAtL k h] mo Tryz.func191 (by decide) cc191 rs191 Tryz.ntmps191 (by simp) (AW_run hct 1000 ?_)
    simp (maxSteps := 10000000) (disch := omega) only [go_sem, c191, mark, ctLeaves, ctRValue, ctRAtL, hid, hit, hsm, eq_false hge, eq_true o1, eq_true o2, eq_true o1', eq_true o2', v1, v2, v1', v2', hl1, hl2, hf, hfl2, hV, deL_cons, deL_nil, reduceIte, seval, -BitVec.isValue, -BitVec.reduceOfNat, -List.reduceReplicate]
    try simp
theorem ctRAtL_ok {k : LK} {h : Nat} (hk : LKok k) (hh : h ≤ k.l.h.toNat) {Ct : List (Nat × (List AV → R))} (hc : CtOK Tryz.prog Gs Ct) : CtOK Tryz.prog Gs (ctRAtL k h :: Ct) := CtOK_cons (Row5 fun l o id s r hr => by
  obtain ⟨rfl, rfl, rfl, rfl, hr⟩ := hr
  exact rAt_fun k hk h hh r hr) hc
end Go.Lv
namespace Go.Lv
open Go Go.Proofs
set_option linter.unusedSimpArgs false
set_option maxRecDepth 100000
theorem rRootL_fun (l : Lms) (o : Ots) (id seed : By) (hk : LKok ⟨l, o, id, seed⟩) : Fun Tryz.prog Gs 137 [Enc.enc l, Enc.enc o, Enc.enc (⟨id⟩ : Ar (BitVec 8)), Enc.enc seed] (Enc.ret (lroot ⟨l, o, id, seed⟩)) := by
  have hid : id.length = 16 := hk.i
  have hit : id.take 16 = id := List.take_of_length_le (by omega)
  have hr : rOK ⟨l, o, id, seed⟩ l.h.toNat 1#64 := by
    refine ⟨?_, ?_⟩ <;> simp
  have hr' : rOK ⟨l, o, id, seed⟩ l.h.toNat (1 : BitVec 64) := hr
  have hv : lnode ⟨l, o, id, seed⟩ l.h.toNat ((1 : BitVec 64).toNat - 2 ^ (l.h.toNat - l.h.toNat)) = lroot ⟨l, o, id, seed⟩ := by simp [lroot]
  have hv' : lnode ⟨l, o, id, seed⟩ l.h.toNat (1 - 2 ^ (l.h.toNat - l.h.toNat)) = lroot ⟨l, o, id, seed⟩ := by simp [lroot]
  have hv2 : lnode ⟨l, o, id, seed⟩ l.h.toNat 0 = lroot ⟨l, o, id, seed⟩ := rfl
  have hct := ctRAtL_ok (k := ⟨l, o, id, seed⟩) (h := l.h.toNat) hk (Nat.le_refl _) (CtOK_nil (P := Tryz.prog) (Gl := Gs))
  refine Fun_cc _ mo Tryz.func137 (by decide) cc137 rs137 Tryz.ntmps137 (by simp) (AW_run hct 1000 ?_)
  simp (maxSteps := 10000000) (disch := omega) only [go_sem, c137, ctRAtL, hid, hit, eq_true hr, eq_true hr', hv, hv', hv2, reduceIte, seval, -BitVec.isValue, -BitVec.reduceOfNat, -List.reduceReplicate]
  try simp [hv2]
def ctRRootL : Nat × (List AV → R) := (137, A4 fun (l : Lms) (o : Ots) (id : Ar (BitVec 8)) (seed : By) => (LKok ⟨l, o, id.l, seed⟩, Enc.ret (lroot ⟨l, o, id.l, seed⟩)))
theorem ctRRootL_ok {Ct : List (Nat × (List AV → R))} (h : CtOK Tryz.prog Gs Ct) : CtOK Tryz.prog Gs (ctRRootL :: Ct) := CtOK_cons (Row4 fun l o id s h => rRootL_fun l o id.l s h) h
set_option maxHeartbeats 2000000 in
theorem rPubL_fun (l : Lms) (o : Ots) (id seed : By) (hk : LKok ⟨l, o, id, seed⟩) : Fun Tryz.prog Gs 89 [Enc.enc l, Enc.enc o, Enc.enc (⟨id⟩ : Ar (BitVec 8)), Enc.enc seed] (Enc.ret (lpubS' ⟨l, o, id, seed⟩)) := by
  have hid : id.length = 16 := hk.i
  have hit : id.take 16 = id := List.take_of_length_le (by omega)
  have hrl := lroot_len hk
  have hon : o.n = 24 ∨ o.n = 32 := hk.o.n
  have h4 := bigL_len (l.code.setWidth 64) 4
  have h5 := bigL_len (o.code.setWidth 64) 4
  have hf : [bigL (l.code.setWidth 64) 4, bigL (o.code.setWidth 64) 4, id, lroot ⟨l, o, id, seed⟩].flatten = lpubS' ⟨l, o, id, seed⟩ := by simp [lpubS', lroot]
  have hpl := lpubS'_len hk
  have hpl' : (lpubS' ⟨l, o, id, seed⟩).length ≤ 140737488351232 := by simp only at hpl; omega
  have hct := mark_ok 23 (ctRBig_ok (ctRRootL_ok (ctJoin_ok (CtOK_nil (P := Tryz.prog) (Gl := Gs)))))
  refine Fun_cc [] mo Tryz.func89 (by decide) cc89 rs89 Tryz.ntmps89 (by simp) (AW_run CtOK_nil 3 ?_)
  simp (maxSteps := 10000000) (disch := omega) only [go_sem, c89, hid, reduceIte, seval, -BitVec.isValue, -BitVec.reduceOfNat, -List.reduceReplicate]
  refine AW_freeze 2 [6] (seg := ⟨id.map .u8, true⟩) (by simp only [go_sem, reduceIte, seval, -BitVec.isValue, -BitVec.reduceOfNat, -List.reduceReplicate]) rfl (AW_ct [mark 23, ctRBig, ctRRootL, ctJoin] (AW_run hct 1000 ?_))
  simp (maxSteps := 10000000) (disch := omega) only [go_sem, frzF, mark, ctRBig, ctRRootL, ctJoin, hid, hit, hk, h4, h5, hrl, hf, hpl', deL_cons, deL_nil, reduceIte, seval, -BitVec.isValue, -BitVec.reduceOfNat, -List.reduceReplicate]
  try simp
def ctRPubL : Nat × (List AV → R) := (89, A4 fun (l : Lms) (o : Ots) (id : Ar (BitVec 8)) (seed : By) => (LKok ⟨l, o, id.l, seed⟩, Enc.ret (lpubS' ⟨l, o, id.l, seed⟩)))
theorem ctRPubL_ok {Ct : List (Nat × (List AV → R))} (h : CtOK Tryz.prog Gs Ct) : CtOK Tryz.prog Gs (ctRPubL :: Ct) := CtOK_cons (Row4 fun l o id s h => rPubL_fun l o id.l s h) h
end Go.Lv
