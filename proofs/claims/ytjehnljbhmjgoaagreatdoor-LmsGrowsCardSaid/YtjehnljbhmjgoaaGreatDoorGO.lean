/- A part of the proof (GO). -/
import Derived.Test.YtjehnljbhmjgoaaGreatDoorGN
import Derived.Test.YtjehnljbhmjgoaaGreatDoorGK
set_option linter.all false
namespace Go.Lv
open Go Go.Proofs
set_option linter.unusedSimpArgs false
set_option maxRecDepth 100000
theorem rLMay_fun (l : Lms) (o : Ots) (seed : By) : Fun Tryz.prog Gs 49 [Enc.enc l, Enc.enc o, Enc.enc seed] (.i (mdE l o seed)) := by
  have hct := ctRFit_ok (CtOK_nil (P := Tryz.prog) (Gl := Gs))
  refine Fun_cc _ mo Tryz.func49 (by decide) cc49 rs49 Tryz.ntmps49 (by simp) (AW_run hct 1000 ?_)
  by_cases h1 : fitP l o
  · by_cases h2 : (seed.length : Int) = l.n
    · have hE : mdE l o seed = 0 := by rw [mdE, if_pos h1, if_pos h2]
      simp (maxSteps := 10000000) (disch := omega) only [go_sem, c49, ctFit, h1, h2, hE, reduceIte, seval, -BitVec.isValue, -BitVec.reduceOfNat, -List.reduceReplicate]
      try simp
    · have hE : mdE l o seed = 1 := by rw [mdE, if_pos h1, if_neg h2]
      simp (maxSteps := 10000000) (disch := omega) only [go_sem, c49, ctFit, h1, eq_false h2, hE, reduceIte, seval, -BitVec.isValue, -BitVec.reduceOfNat, -List.reduceReplicate]
      try simp
  · have hE : mdE l o seed = 60 := by rw [mdE, if_neg h1]
    simp (maxSteps := 10000000) (disch := omega) only [go_sem, c49, ctFit, eq_false h1, hE, reduceIte, seval, -BitVec.isValue, -BitVec.reduceOfNat, -List.reduceReplicate]
    try simp
def ctRLMay : Nat × (List AV → R) := (49, A3 fun (l : Lms) (o : Ots) (seed : By) => (True, .i (mdE l o seed)))
theorem ctRLMay_ok {Ct : List (Nat × (List AV → R))} (h : CtOK Tryz.prog Gs Ct) : CtOK Tryz.prog Gs (ctRLMay :: Ct) := CtOK_cons (Row3 fun l o s _ => rLMay_fun l o s) h
set_option maxHeartbeats 2000000 in
theorem rLLeaf_fun (l : Lms) (o : Ots) (id seed : By) (q : BitVec 32) (hk : LKok ⟨l, o, id, seed⟩) (hq : q.toNat < 2 ^ l.h.toNat) : Fun Tryz.prog Gs 73 [Enc.enc l, Enc.enc o, Enc.enc (⟨id⟩ : Ar (BitVec 8)), Enc.enc seed, Enc.enc q] (Enc.ret (lnode ⟨l, o, id, seed⟩ 0 q.toNat)) := by
  have hid : id.length = 16 := hk.i
  have hit : id.take 16 = id := List.take_of_length_le (by omega)
  have hsm : lmsSm l := hk.sm
  obtain ⟨g1, g2, g3, g4⟩ := hk.sm
  have ho : OtsOK o := hk.o
  have hn : l.n = o.n := hk.n
  have hs : (seed.length : Int) = o.n := by have := hk.s; simp only at this; omega
  have hlw := lW_0 (H := l.h.toNat) (by simp only at g2; omega) hq
  have hpl : (lpubO o id q seed).length = o.n.toNat := by have h1 : ((lpubO o id q seed).length : Int) = o.n := hO_len ho _; omega
  have hon := ho.n
  have hf : [lpubO o id q seed].flatten = lpubO o id q seed := by simp
  have hii : BitVec.ofNat 32 q.toNat = q := by simp
  have hV : vS l id (lW l.h.toNat 0 q.toNat) 130 (lpubO o id q seed) = lnode ⟨l, o, id, seed⟩ 0 q.toNat := by
    rw [lnode]; simp only [hii]; exact vS_lf hk.f id _ _
  have hct := mark_ok 23 (ctLeaves_ok (ctRPublic_ok (ctRValue_ok (CtOK_nil (P := Tryz.prog) (Gl := Gs)))))
  refine Fun_cc [mark 23, ctLeaves, ctRPublic, ctRValue] mo Tryz.func73 (by decide) cc73 rs73 Tryz.ntmps73 (by simp) (AW_run hct 1000 ?_)
  simp (maxSteps := 10000000) (disch := omega) only [go_sem, c73, mark, ctLeaves, ctRPublic, ctRValue, hid, hit, hsm, ho, hs, hlw, hpl, hf, hV, deL_cons, deL_nil, reduceIte, seval, -BitVec.isValue, -BitVec.reduceOfNat, -List.reduceReplicate]
  try simp
def ctRLLeaf : Nat × (List AV → R) := (73, A5 fun (l : Lms) (o : Ots) (id : Ar (BitVec 8)) (seed : By) (q : BitVec 32) => (LKok ⟨l, o, id.l, seed⟩ ∧ q.toNat < 2 ^ l.h.toNat, Enc.ret (lnode ⟨l, o, id.l, seed⟩ 0 q.toNat)))
theorem ctRLLeaf_ok {Ct : List (Nat × (List AV → R))} (h : CtOK Tryz.prog Gs Ct) : CtOK Tryz.prog Gs (ctRLLeaf :: Ct) := CtOK_cons (Row5 fun l o id s q h => rLLeaf_fun l o id.l s q h.1 h.2) h
def rOK (k : LK) (h : Nat) (r : BitVec 64) : Prop := 2 ^ (k.l.h.toNat - h) ≤ r.toNat ∧ r.toNat < 2 ^ (k.l.h.toNat - h) * 2
def ctRAtL (k : LK) (h : Nat) : Nat × (List AV → R) := (68, A5 fun (l : Lms) (o : Ots) (id : Ar (BitVec 8)) (seed : By) (r : BitVec 64) => (l = k.l ∧ o = k.o ∧ id = ⟨k.id⟩ ∧ seed = k.sd ∧ rOK k h r, Enc.ret (lnode k h (r.toNat - 2 ^ (k.l.h.toNat - h)))))
set_option maxHeartbeats 4000000 in
theorem rAt_fun (k : LK) (hk : LKok k) : ∀ h, h ≤ k.l.h.toNat → ∀ (r : BitVec 64), rOK k h r →
    Fun Tryz.prog Gs 68 [Enc.enc k.l, Enc.enc k.o, Enc.enc (⟨k.id⟩ : Ar (BitVec 8)), Enc.enc k.sd, Enc.enc r] (Enc.ret (lnode k h (r.toNat - 2 ^ (k.l.h.toNat - h))))
  | 0, _, r, hr => by
    obtain ⟨r1, r2⟩ := hr
    rw [Nat.sub_zero] at r1 r2 ⊢
    have hid : k.id.length = 16 := hk.i
    have hit : k.id.take 16 = k.id := List.take_of_length_le (by omega)
    have hsm : lmsSm k.l := hk.sm
    obtain ⟨g1, g2, g3, g4⟩ := hk.sm
    have h25 : 2 ^ k.l.h.toNat ≤ 2 ^ 25 := Nat.pow_le_pow_right (n := 2) (by omega) (by omega)
    have hp : (pw k.l.h.toNat).toNat = 2 ^ k.l.h.toNat := by rw [pw, BitVec.toNat_ofNat]; exact Nat.mod_eq_of_lt (by omega)
    have hge : pw k.l.h.toNat ≤ r := by rw [BitVec.le_def, hp]; exact r1
    have hsub : (BitVec.setWidth 32 (r - pw k.l.h.toNat)).toNat = r.toNat - 2 ^ k.l.h.toNat := by
      have := r.isLt
      rw [BitVec.toNat_setWidth, BitVec.toNat_sub, hp]
      omega
    have hlt : r.toNat - 2 ^ k.l.h.toNat < 2 ^ k.l.h.toNat := by omega
    have hct := ctLeaves_ok (ctRLLeaf_ok (CtOK_nil (P := Tryz.prog) (Gl := Gs)))
    refine Fun_cc _ mo Tryz.func68 (by decide) cc68 rs68 Tryz.ntmps68 (by simp) (AW_run hct 1000 ?_)
    simp (maxSteps := 10000000) (disch := omega) only [go_sem, c68, ctLeaves, ctRLLeaf, hid, hit, hsm, hk, eq_true hge, hsub, hlt, reduceIte, seval, -BitVec.isValue, -BitVec.reduceOfNat, -List.reduceReplicate]
    try simp
  | h + 1, hh, r, hr => by
    obtain ⟨r1, r2⟩ := hr
    have ih := fun r a => rAt_fun k hk h (by omega) r a
    have hid : k.id.length = 16 := hk.i
    have hit : k.id.take 16 = k.id := List.take_of_length_le (by omega)
    have hsm : lmsSm k.l := hk.sm
    obtain ⟨g1, g2, g3, g4⟩ := hk.sm
    have h25 : 2 ^ k.l.h.toNat ≤ 2 ^ 25 := Nat.pow_le_pow_right (n := 2) (by omega) (by omega)
    have hp : (pw k.l.h.toNat).toNat = 2 ^ k.l.h.toNat := by rw [pw, BitVec.toNat_ofNat]; exact Nat.mod_eq_of_lt (by omega)
    have e0 : 2 ^ (k.l.h.toNat - h) = 2 ^ (k.l.h.toNat - (h + 1)) * 2 := by rw [← Nat.pow_succ, show (k.l.h.toNat - (h + 1)).succ = k.l.h.toNat - h by omega]
    have e1 : 2 ^ (k.l.h.toNat - h) ≤ 2 ^ k.l.h.toNat := Nat.pow_le_pow_right (n := 2) (by omega) (by omega)
    obtain ⟨P, hP⟩ : ∃ P, P = 2 ^ (k.l.h.toNat - (h + 1)) := ⟨_, rfl⟩
    rw [← hP] at r1 r2 e0 ⊢
    have hge : ¬ pw k.l.h.toNat ≤ r := by rw [BitVec.le_def, hp]; omega
    have t1 : (2#64 * r).toNat = 2 * r.toNat := by rw [BitVec.toNat_mul, show (2#64).toNat = 2 from rfl]; exact Nat.mod_eq_of_lt (by omega)
    have t2 : (2#64 * r + 1#64).toNat = 2 * r.toNat + 1 := by rw [BitVec.toNat_add, t1, show (1#64).toNat = 1 from rfl]; exact Nat.mod_eq_of_lt (by omega)
    have o1 : rOK k h (2#64 * r) := ⟨by rw [t1, e0]; omega, by rw [t1, e0]; omega⟩
    have o2 : rOK k h (2#64 * r + 1#64) := ⟨by rw [t2, e0]; omega, by rw [t2, e0]; omega⟩
    have o1' : rOK k h ((2 : BitVec 64) * r) := o1
    have o2' : rOK k h ((2 : BitVec 64) * r + (1 : BitVec 64)) := o2
    have v1 : (2#64 * r).toNat - 2 ^ (k.l.h.toNat - h) = 2 * (r.toNat - P) := by rw [t1, e0]; omega
    have v2 : (2#64 * r + 1#64).toNat - 2 ^ (k.l.h.toNat - h) = 2 * (r.toNat - P) + 1 := by rw [t2, e0]; omega
    have v1' : ((2 : BitVec 64) * r).toNat - 2 ^ (k.l.h.toNat - h) = 2 * (r.toNat - P) := v1
    have v2' : ((2 : BitVec 64) * r + (1 : BitVec 64)).toNat - 2 ^ (k.l.h.toNat - h) = 2 * (r.toNat - P) + 1 := v2
    have hl1 := lnode_len hk h (2 * (r.toNat - P))
    have hl2 := lnode_len hk h (2 * (r.toNat - P) + 1)
    have hon := hk.o.n
    have hrw : r = lW k.l.h.toNat (h + 1) (r.toNat - P) := by
      apply BitVec.eq_of_toNat_eq
      rw [lW_nat (by omega) (by omega), ← hP]; omega
    have hf : [lnode k h (2 * (r.toNat - P)), lnode k h (2 * (r.toNat - P) + 1)].flatten = lnode k h (2 * (r.toNat - P)) ++ lnode k h (2 * (r.toNat - P) + 1) := by simp
    have hV : vS k.l k.id r 131 (lnode k h (2 * (r.toNat - P)) ++ lnode k h (2 * (r.toNat - P) + 1)) = lnode k (h + 1) (r.toNat - P) := by
      rw [show vS k.l k.id r = vS k.l k.id (lW k.l.h.toNat (h + 1) (r.toNat - P)) from by rw [← hrw]]
      exact vS_nd hk.f k.id _ _ _
    have hfl2 : (lnode k h (2 * (r.toNat - P)) ++ lnode k h (2 * (r.toNat - P) + 1)).length ≤ 100000000 := by rw [List.length_append]; omega
    have hrow : CtOK Tryz.prog Gs [ctRAtL k h] := CtOK_cons (Row5 fun l o id s r hh => by
      obtain ⟨rfl, rfl, rfl, rfl, hr⟩ := hh
      exact ih r hr) CtOK_nil
    have hct := mark_ok 43 (ctLeaves_ok (ctRValue_ok hrow))
    refine Fun_cc [mark 43, ctLeaves, ctRValue, ctRAtL k h] mo Tryz.func68 (by decide) cc68 rs68 Tryz.ntmps68 (by simp) (AW_run hct 1000 ?_)
    simp (maxSteps := 10000000) (disch := omega) only [go_sem, c68, mark, ctLeaves, ctRValue, ctRAtL, hid, hit, hsm, eq_false hge, eq_true o1, eq_true o2, eq_true o1', eq_true o2', v1, v2, v1', v2', hl1, hl2, hf, hfl2, hV, deL_cons, deL_nil, reduceIte, seval, -BitVec.isValue, -BitVec.reduceOfNat, -List.reduceReplicate]
    try simp
theorem ctRAtL_ok {k : LK} {h : Nat} (hk : LKok k) (hh : h ≤ k.l.h.toNat) {Ct : List (Nat × (List AV → R))} (hc : CtOK Tryz.prog Gs Ct) : CtOK Tryz.prog Gs (ctRAtL k h :: Ct) := CtOK_cons (Row5 fun l o id s r hr => by
  obtain ⟨rfl, rfl, rfl, rfl, hr⟩ := hr
  exact rAt_fun k hk h hh r hr) hc
end Go.Lv
namespace Go.Lv
open Go Go.Proofs
set_option linter.unusedSimpArgs false
set_option maxRecDepth 100000
theorem rRootL_fun (l : Lms) (o : Ots) (id seed : By) (hk : LKok ⟨l, o, id, seed⟩) : Fun Tryz.prog Gs 53 [Enc.enc l, Enc.enc o, Enc.enc (⟨id⟩ : Ar (BitVec 8)), Enc.enc seed] (Enc.ret (lroot ⟨l, o, id, seed⟩)) := by
  have hid : id.length = 16 := hk.i
  have hit : id.take 16 = id := List.take_of_length_le (by omega)
  have hr : rOK ⟨l, o, id, seed⟩ l.h.toNat 1#64 := by
    refine ⟨?_, ?_⟩ <;> simp
  have hr' : rOK ⟨l, o, id, seed⟩ l.h.toNat (1 : BitVec 64) := hr
  have hv : lnode ⟨l, o, id, seed⟩ l.h.toNat ((1 : BitVec 64).toNat - 2 ^ (l.h.toNat - l.h.toNat)) = lroot ⟨l, o, id, seed⟩ := by simp [lroot]
  have hv' : lnode ⟨l, o, id, seed⟩ l.h.toNat (1 - 2 ^ (l.h.toNat - l.h.toNat)) = lroot ⟨l, o, id, seed⟩ := by simp [lroot]
  have hv2 : lnode ⟨l, o, id, seed⟩ l.h.toNat 0 = lroot ⟨l, o, id, seed⟩ := rfl
  have hct := ctRAtL_ok (k := ⟨l, o, id, seed⟩) (h := l.h.toNat) hk (Nat.le_refl _) (CtOK_nil (P := Tryz.prog) (Gl := Gs))
  refine Fun_cc _ mo Tryz.func53 (by decide) cc53 rs53 Tryz.ntmps53 (by simp) (AW_run hct 1000 ?_)
  simp (maxSteps := 10000000) (disch := omega) only [go_sem, c53, ctRAtL, hid, hit, eq_true hr, eq_true hr', hv, hv', hv2, reduceIte, seval, -BitVec.isValue, -BitVec.reduceOfNat, -List.reduceReplicate]
  try simp [hv2]
def ctRRootL : Nat × (List AV → R) := (53, A4 fun (l : Lms) (o : Ots) (id : Ar (BitVec 8)) (seed : By) => (LKok ⟨l, o, id.l, seed⟩, Enc.ret (lroot ⟨l, o, id.l, seed⟩)))
theorem ctRRootL_ok {Ct : List (Nat × (List AV → R))} (h : CtOK Tryz.prog Gs Ct) : CtOK Tryz.prog Gs (ctRRootL :: Ct) := CtOK_cons (Row4 fun l o id s h => rRootL_fun l o id.l s h) h
end Go.Lv
namespace Go.Lv
open Go Go.Proofs
set_option linter.unusedSimpArgs false
set_option maxRecDepth 100000
def fewB (k : LK) : Bool := if 100 < k.sd.length ∨ ¬ fitP k.l k.o then decide (k.sd.length ≤ 100) else decide (k.l.h ≤ 4) && decide (k.o.p * 2 ^ k.o.w.toNat * 2 ^ k.l.h.toNat ≤ 7000)
set_option maxHeartbeats 1000000 in
theorem few_fun (k : LK) (hi : k.id.length = 16) : Fun Tryz.prog Gs 41 [.agg (lkC k)] (.b (fewB k)) := by
  have hit : k.id.take 16 = k.id := List.take_of_length_le (by omega)
  have hct := ctRFit_ok (CtOK_nil (P := Tryz.prog) (Gl := Gs))
  refine Fun_cc _ mo Tryz.func41 (by decide) cc41 rs41 Tryz.ntmps41 (by simp) (AW_run hct 1000 ?_)
  by_cases h1 : 100 < k.sd.length
  · have h1' : (100 : Int) < k.sd.length := by omega
    have hF : fewB k = false := by rw [fewB, if_pos (.inl h1)]; exact decide_eq_false (by omega)
    have h2 : ¬ (k.sd.length : Int) ≤ 100 := by omega
    simp (maxSteps := 10000000) (disch := omega) only [go_sem, c41, ctFit, lkC, hi, hit, eq_true h1', eq_false h2, hF, reduceIte, seval, -BitVec.isValue, -BitVec.reduceOfNat, -List.reduceReplicate]
    try simp
  · have h1' : ¬ (100 : Int) < k.sd.length := by omega
    by_cases hf : fitP k.l k.o
    · have ho := otsT_ok hf.2.1
      have hon := ho.n
      have hop := ho.p
      have how := ho.w
      have hsm := lmsT_sm hf.1
      obtain ⟨g1, g2, g3, g4⟩ := hsm
      by_cases hH : k.l.h ≤ 4
      · have hF : fewB k = decide (k.o.p * 2 ^ k.o.w.toNat * 2 ^ k.l.h.toNat ≤ 7000) := by
          rw [fewB, if_neg (by intro e; rcases e with e | e; exact h1 e; exact e hf)]
          simp [hH]
        have hw8 : 0 ≤ k.o.w ∧ k.o.w < 64 ∧ k.o.w.toNat ≤ 8 := by rcases how with e | e | e | e <;> rw [e] <;> decide
        have e1 : (0 : Int) ≤ 2 ^ k.o.w.toNat ∧ (2 : Int) ^ k.o.w.toNat ≤ 256 := by
          have h0 : (2 : Nat) ^ k.o.w.toNat ≤ 2 ^ 8 := Nat.pow_le_pow_right (n := 2) (by omega) hw8.2.2
          have : ((2 ^ k.o.w.toNat : Nat) : Int) = (2 : Int) ^ k.o.w.toNat := by simp
          rw [← this]
          exact ⟨Int.natCast_nonneg _, Int.ofNat_le.2 h0⟩
        have e2 : (0 : Int) ≤ 2 ^ k.l.h.toNat ∧ (2 : Int) ^ k.l.h.toNat ≤ 16 := by
          have h0 : (2 : Nat) ^ k.l.h.toNat ≤ 2 ^ 4 := Nat.pow_le_pow_right (n := 2) (by omega) (by omega)
          have : ((2 ^ k.l.h.toNat : Nat) : Int) = (2 : Int) ^ k.l.h.toNat := by simp
          rw [← this]
          exact ⟨Int.natCast_nonneg _, Int.ofNat_le.2 h0⟩
        obtain ⟨A, hA⟩ : ∃ A, A = (2 : Int) ^ k.o.w.toNat := ⟨_, rfl⟩
        obtain ⟨B, hB⟩ : ∃ B, B = (2 : Int) ^ k.l.h.toNat := ⟨_, rfl⟩
        have m1 := mul_sm (A := 265) (B := 256) (a := k.o.p) (b := A) (by omega) (by omega) (by omega) (by omega)
        have m2 := mul_sm (A := 67840) (B := 16) (a := k.o.p * A) (b := B) (by omega) (by omega) (by omega) (by omega)
        have b1 : -9223372036854775808 ≤ k.o.p * A := by omega
        have b2 : k.o.p * A ≤ 9223372036854775807 := by omega
        have b3 : -9223372036854775808 ≤ k.o.p * A * B := by omega
        have b4 : k.o.p * A * B ≤ 9223372036854775807 := by omega
        rw [hF]
        have h64 : k.l.h < 64 := by omega
        by_cases h7 : k.o.p * 2 ^ k.o.w.toNat * 2 ^ k.l.h.toNat ≤ 7000
        · rw [decide_eq_true h7]
          rw [← hA, ← hB] at h7
          simp (maxSteps := 10000000) (disch := omega) only [go_sem, c41, ctFit, lkC, hi, hit, eq_false h1', hf, eq_true hH, g1, h64, hw8.1, hw8.2.1, ← hA, ← hB, b1, b2, b3, b4, eq_true h7, reduceIte, seval, -BitVec.isValue, -BitVec.reduceOfNat, -List.reduceReplicate]
          try simp
        · rw [decide_eq_false h7]
          rw [← hA, ← hB] at h7
          simp (maxSteps := 10000000) (disch := omega) only [go_sem, c41, ctFit, lkC, hi, hit, eq_false h1', hf, eq_true hH, g1, h64, hw8.1, hw8.2.1, ← hA, ← hB, b1, b2, b3, b4, eq_false h7, reduceIte, seval, -BitVec.isValue, -BitVec.reduceOfNat, -List.reduceReplicate]
          try simp
      · have hF : fewB k = false := by
          rw [fewB, if_neg (by intro e; rcases e with e | e; exact h1 e; exact e hf)]
          simp [hH]
        simp (maxSteps := 10000000) (disch := omega) only [go_sem, c41, ctFit, lkC, hi, hit, eq_false h1', hf, eq_false hH, hF, reduceIte, seval, -BitVec.isValue, -BitVec.reduceOfNat, -List.reduceReplicate]
        try simp
    · have hF : fewB k = true := by rw [fewB, if_pos (.inr hf)]; exact decide_eq_true (by omega)
      have h2 : (k.sd.length : Int) ≤ 100 := by omega
      simp (maxSteps := 10000000) (disch := omega) only [go_sem, c41, ctFit, lkC, hi, hit, eq_false h1', eq_false hf, eq_true h2, hF, reduceIte, seval, -BitVec.isValue, -BitVec.reduceOfNat, -List.reduceReplicate]
      try simp
theorem ctFewK_ok {k : LK} (hi : k.id.length = 16) {Ct : List (Nat × (List AV → R))} (h : CtOK Tryz.prog Gs Ct) : CtOK Tryz.prog Gs (ct1 41 [.agg (lkC k)] (.b (fewB k)) :: Ct) := CtOK_cons (fun a h => by
  have h : a = [.agg (lkC k)] := h
  subst h; exact few_fun k hi) h
theorem few_H {k : LK} (h : fewB k = true) (hf : fitP k.l k.o) : k.l.h.toNat ≤ 4 := by
  rw [fewB] at h
  split at h
  · rename_i e
    rcases e with e | e
    · have := of_decide_eq_true h; omega
    · exact absurd hf e
  · have h : (decide (k.l.h ≤ 4) && decide (k.o.p * 2 ^ k.o.w.toNat * 2 ^ k.l.h.toNat ≤ 7000)) = true := h
    rw [Bool.and_eq_true, decide_eq_true_eq] at h
    omega
theorem mdE_fit {l : Lms} {o : Ots} {sd : By} (h : mdE l o sd = 0) : fitP l o := by
  rw [mdE] at h
  split at h
  · assumption
  · cases h
theorem few_H' {k : LK} (h : fewB k = true) (hm : mdE k.l k.o k.sd = 0) : k.l.h.toNat ≤ 4 := few_H h (mdE_fit hm)
end Go.Lv
