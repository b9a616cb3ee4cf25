/- A part of the proof (GN). -/
import Derived.Test.YtffmejeeddplaaaGreatDoorGM
import Derived.Test.YtffmejeeddplaaaGreatDoorGK
import Derived.Test.YtffmejeeddplaaaGreatDoorGL
import Derived.Test.YtffmejeeddplaaaGreatDoorFH
set_option linter.all false
namespace Go.Lv
open Go Go.Proofs
set_option linter.unusedSimpArgs false
set_option maxRecDepth 100000
def lpubR (l : Lms) (o : Ots) (id seed : By) : AV := if mdE l o seed = 0 then .tup [Enc.ret (lpubS' ⟨l, o, id, seed⟩), .i 0] else nilE (mdE l o seed)
set_option maxHeartbeats 2000000 in
theorem lPublic_fun (l : Lms) (o : Ots) (id seed : By) (hid : id.length = 16) (hsd : seed.length ≤ 140737488351232) (hH : mdE l o seed = 0 → l.h.toNat ≤ 4) : Fun Tryz.prog Gs 136 [Enc.enc l, Enc.enc o, Enc.enc (⟨id⟩ : Ar (BitVec 8)), Enc.enc seed] (lpubR l o id seed) := by
  have hit : id.take 16 = id := List.take_of_length_le (by omega)
  by_cases h0 : mdE l o seed = 0
  · have hk := mdE_ok h0 hid
    have hH' := hH h0
    have hrl := lroot_len hk
    have hon : o.n = 24 ∨ o.n = 32 := hk.o.n
    have hR : rootR l o id seed = .tup [Enc.ret (lroot ⟨l, o, id, seed⟩), .i 0] := by rw [rootR, if_pos h0]
    have h4 := bigL_len (l.code.setWidth 64) 4
    have h5 := bigL_len (o.code.setWidth 64) 4
    have hf : [bigL (l.code.setWidth 64) 4, bigL (o.code.setWidth 64) 4, id, lroot ⟨l, o, id, seed⟩].flatten = lpubS' ⟨l, o, id, seed⟩ := by simp [lpubS', lroot]
    have hfl := lpubS'_len hk
    rw [lpubR, if_pos h0]
    have hct := mark_ok 31 (ctLRoot_ok (ctU32_ok (ctOJoin_ok (CtOK_nil (P := Tryz.prog) (Gl := Gs)))))
    refine Fun_cc [mark 31, ctLRoot, ctU32, ctOJoin] mo Tryz.func136 (by decide) cc136 rs136 Tryz.ntmps136 (by simp) (AW_run hct 19 ?_)
    simp (maxSteps := 10000000) (disch := omega) only [go_sem, c136, mark, ctLRoot, ctU32, ctOJoin, hR, h0, hH', hid, hit, hsd, hrl, reduceIte, seval, -BitVec.isValue, -BitVec.reduceOfNat, -List.reduceReplicate]
    refine AW_freeze 2 [6] (seg := ⟨id.map .u8, true⟩) (by simp only [go_sem, reduceIte, seval, -BitVec.isValue, -BitVec.reduceOfNat, -List.reduceReplicate]) rfl (AW_ct [mark 31, ctLRoot, ctU32, ctOJoin] (AW_run hct 1000 ?_))
    simp (maxSteps := 10000000) (disch := omega) only [go_sem, frzF, mark, ctLRoot, ctU32, ctOJoin, hid, hit, hf, hfl, h4, h5, hrl, deL_cons, deL_nil, reduceIte, seval, -BitVec.isValue, -BitVec.reduceOfNat, -List.reduceReplicate]
    try simp
  · rw [lpubR, if_neg h0]
    obtain ⟨e, he⟩ : ∃ e, e = mdE l o seed := ⟨_, rfl⟩
    have hR : rootR l o id seed = nilE e := by rw [rootR, if_neg h0, ← he]
    rw [← he] at h0 ⊢
    have hct := ctLRoot_ok (CtOK_nil (P := Tryz.prog) (Gl := Gs))
    refine Fun_cc _ mo Tryz.func136 (by decide) cc136 rs136 Tryz.ntmps136 (by simp) (AW_run hct 1000 ?_)
    simp (maxSteps := 10000000) (disch := omega) only [go_sem, c136, ctLRoot, hR, ← he, eq_false h0, hid, hit, hsd, nilE, reduceIte, seval, -BitVec.isValue, -BitVec.reduceOfNat, -List.reduceReplicate]
    try simp
def ctLPub (n : Nat) : Nat × (List AV → R) := (n, A4 fun (l : Lms) (o : Ots) (id : Ar (BitVec 8)) (seed : By) => (id.l.length = 16 ∧ seed.length ≤ 140737488351232 ∧ (mdE l o seed = 0 → l.h.toNat ≤ 4), lpubR l o id.l seed))
theorem ctLPub_ok {Ct : List (Nat × (List AV → R))} (h : CtOK Tryz.prog Gs Ct) : CtOK Tryz.prog Gs (ctLPub 136 :: Ct) := CtOK_cons (Row4 fun l o id seed h => lPublic_fun l o id.l seed h.1 h.2.1 h.2.2) h
end Go.Lv
namespace Go.Lv
open Go Go.Proofs
set_option linter.unusedSimpArgs false
set_option maxRecDepth 100000
end Go.Lv
namespace Go.Lv
open Go Go.Proofs
set_option linter.unusedSimpArgs false
set_option maxRecDepth 100000
end Go.Lv
namespace Go.Lv
open Go Go.Proofs
set_option linter.unusedSimpArgs false
set_option maxRecDepth 100000
def vS (l : Lms) (id : By) (r : BitVec 64) (mk : BitVec 8) (t : By) : By := hsumS l.shake l.n.toNat (id ++ bigL r 4 ++ [mk, mk] ++ t)
theorem vS_lf {l : Lms} {o : Ots} (h : fitP l o) (id : By) (R : BitVec 32) (t : By) : vS l id (R.setWidth 64) 0x82 t = lfS o id R t := by
  rw [vS, lfS, hO, h.2.2.1, h.2.2.2, hdS]; rfl
theorem vS_nd {l : Lms} {o : Ots} (h : fitP l o) (id : By) (R : BitVec 32) (a b : By) : vS l id (R.setWidth 64) 0x83 (a ++ b) = ndS o id R a b := by
  rw [vS, ndS, hO, h.2.2.1, h.2.2.2, hdS]; rfl
set_option maxHeartbeats 2000000 in
theorem rValue_fun (l : Lms) (id : By) (r : BitVec 64) (mk : BitVec 8) (ps : List By) (hs : lmsSm l) (hid : id.length = 16) (hp1 : ps.length ≤ 1000) (hp2 : ps.flatten.length ≤ 100000000) :
    Fun Tryz.prog Gs 154 [Enc.enc l, Enc.enc (⟨id⟩ : Ar (BitVec 8)), Enc.enc r, Enc.enc mk, Enc.enc ps] (Enc.ret (vS l id r mk ps.flatten)) := by
  have hit : id.take 16 = id := List.take_of_length_le (by omega)
  have h4 := bigL_len r 4
  have hf : [id, bigL r 4, [mk, mk], ps.flatten].flatten = id ++ bigL r 4 ++ [mk, mk] ++ ps.flatten := by simp
  have hR : hsumS l.shake l.n.toNat (id ++ bigL r 4 ++ [mk, mk] ++ ps.flatten) = vS l id r mk ps.flatten := rfl
  have hl : (id ++ bigL r 4 ++ [mk, mk] ++ ps.flatten).length ≤ 1000000000 := by simp only [List.length_append, h4, hid, List.length_cons, List.length_nil]; omega
  obtain ⟨g1, g2, g3, g4⟩ := hs
  have hct := mark_ok 20 (mark_ok 23 (ctRBig_ok (ctJoin_ok (ctRSum_ok (CtOK_nil (P := Tryz.prog) (Gl := Gs))))))
  refine Fun_cc [] mo Tryz.func154 (by decide) cc154 rs154 Tryz.ntmps154 (by simp) (AW_run CtOK_nil 2 ?_)
  simp (maxSteps := 10000000) (disch := omega) only [go_sem, c154, hid, reduceIte, seval, -BitVec.isValue, -BitVec.reduceOfNat, -List.reduceReplicate]
  refine AW_freeze 1 [6] (seg := ⟨id.map .u8, true⟩) (by simp only [go_sem, reduceIte, seval, -BitVec.isValue, -BitVec.reduceOfNat, -List.reduceReplicate]) rfl (AW_ct [mark 20, mark 23, ctRBig, ctJoin, ctRSum] (AW_run hct 1000 ?_))
  simp (maxSteps := 10000000) (disch := omega) only [go_sem, frzF, hid, mark, ctRBig, ctJoin, ctRSum, hit, h4, hf, hl, hR, deL_cons, deL_nil, reduceIte, seval, -BitVec.isValue, -BitVec.reduceOfNat, -List.reduceReplicate]
  try simp
def ctRValue : Nat × (List AV → R) := (154, A5 fun (l : Lms) (id : Ar (BitVec 8)) (r : BitVec 64) (mk : BitVec 8) (ps : List By) => (lmsSm l ∧ id.l.length = 16 ∧ ps.length ≤ 1000 ∧ ps.flatten.length ≤ 100000000, Enc.ret (vS l id.l r mk ps.flatten)))
theorem ctRValue_ok {Ct : List (Nat × (List AV → R))} (h : CtOK Tryz.prog Gs Ct) : CtOK Tryz.prog Gs (ctRValue :: Ct) := CtOK_cons (Row5 fun l id r mk ps h => rValue_fun l id.l r mk ps h.1 h.2.1 h.2.2.1 h.2.2.2) h
def lW (H h j : Nat) : BitVec 64 := (lN H h j).setWidth 64
theorem lW_nat {H h j : Nat} (hH : H ≤ 25) (hj : j < 2 ^ 31) : (lW H h j).toNat = 2 ^ (H - h) + j := by
  have h25 : 2 ^ (H - h) ≤ 2 ^ 25 := Nat.pow_le_pow_right (n := 2) (by omega) (by omega)
  have e : (lN H h j).toNat = 2 ^ (H - h) + j := by rw [lN, BitVec.toNat_ofNat]; exact Nat.mod_eq_of_lt (by omega)
  rw [lW, BitVec.toNat_setWidth, e]
  exact Nat.mod_eq_of_lt (by omega)
theorem lW_0 {H : Nat} (hH : H ≤ 25) {q : BitVec 32} (hq : q.toNat < 2 ^ H) : pw H + q.setWidth 64 = lW H 0 q.toNat := by
  have h25 : 2 ^ H ≤ 2 ^ 25 := Nat.pow_le_pow_right (n := 2) (by omega) hH
  apply BitVec.eq_of_toNat_eq
  have e : (2 ^ H) % 2 ^ 64 = 2 ^ H := Nat.mod_eq_of_lt (by omega)
  rw [lW_nat hH (by omega), BitVec.toNat_add, pw, BitVec.toNat_ofNat, BitVec.toNat_setWidth, e, Nat.sub_zero]
  omega
end Go.Lv
namespace Go.Lv
open Go Go.Proofs
set_option linter.unusedSimpArgs false
set_option maxRecDepth 100000
end Go.Lv
namespace Go.Lv
open Go Go.Proofs
set_option linter.unusedSimpArgs false
set_option maxRecDepth 100000
end Go.Lv
