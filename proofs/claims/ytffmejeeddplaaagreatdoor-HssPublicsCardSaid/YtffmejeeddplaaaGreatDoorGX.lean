/- A part of the proof (GX). -/
import Derived.Test.YtffmejeeddplaaaGreatDoorGY
import Derived.Test.YtffmejeeddplaaaGreatDoorGK
set_option linter.all false
namespace Go.Lv
open Go Go.Proofs
set_option linter.unusedSimpArgs false
set_option maxRecDepth 100000
def pw (n : Nat) : BitVec 64 := BitVec.ofNat 64 (2 ^ n)
theorem pw_shl (n h : Nat) : pw n <<< h = pw (n + h) := by
  apply BitVec.eq_of_toNat_eq
  simp only [pw, BitVec.toNat_shiftLeft, BitVec.toNat_ofNat, Nat.shiftLeft_eq]
  rw [Nat.mul_mod, Nat.mod_mod, ← Nat.mul_mod, ← Nat.pow_add]
theorem pw_mul (n h : Nat) : pw n * pw h = pw (n + h) := by
  apply BitVec.eq_of_toNat_eq
  simp only [pw, BitVec.toNat_mul, BitVec.toNat_ofNat]
  rw [← Nat.mul_mod, ← Nat.pow_add]
theorem pw_two (n : Nat) : pw n * 2#64 = pw (n + 1) := pw_mul n 1
theorem pw_zero : pw 0 = 1#64 := rfl
def hN (v : Level) : Nat := (lmsX v.a).h.toNat
theorem hN_eq (v : Level) : (lmsX v.a).h = (hN v : Int) := by have := lmsX_ok v.a; unfold hN; omega
theorem hN_le (v : Level) : hN v ≤ 25 := by have := lmsX_ok v.a; unfold hN; omega
def lv0 : Level := ⟨0, 0⟩
def hs (ls : List Level) (k : Nat) : Nat := ((ls.take k).map hN).sum
theorem hs_zero (ls : List Level) : hs ls 0 = 0 := rfl
theorem hs_succ (ls : List Level) (k : Nat) (h : k < ls.length) : hs ls (k + 1) = hs ls k + hN (ls.getD k lv0) := by
  unfold hs
  rw [List.take_succ_eq_append_getElem h, List.map_append, List.sum_append]
  simp [List.getD_eq_getElem?_getD, h]
theorem hs_le (ls : List Level) : ∀ k, k ≤ ls.length → hs ls k ≤ 25 * k
  | 0, _ => by simp [hs_zero]
  | k + 1, h => by have := hs_le ls k (by omega); have := hN_le (ls.getD k lv0); rw [hs_succ ls k (by omega)]; omega
def σpow2 (n k : Nat) : St := ⟨[(3, .u64 (pw k)), (4, .i n), (5, .i k)], [], 0⟩
theorem power_fun (m : Int) (h0 : 0 ≤ m) (h1 : m ≤ 25) : Fun Tryz.prog Gs 143 [Enc.enc m] (.u64 (pw m.toNat)) := by
  obtain ⟨n, rfl⟩ := Int.eq_ofNat_of_zero_le h0
  refine Fun_cc [] mo Tryz.func143 (by decide) cc143 rs143 Tryz.ntmps143 (by simp) ?_
  refine AW_run CtOK_nil 1000 ?_
  simp (maxSteps := 10000000) (disch := omega) only [go_sem, c143, reduceIte, seval, -BitVec.isValue, -BitVec.reduceOfNat, -List.reduceReplicate]
  refine AW_loop (σpow2 n) (fun k => k ≤ n) (fun k => n - k) 0 (Nat.zero_le _) (Wk_p [] ?_) fun k hk => ?_
  · simp only [go_sem, σpow2, pw_zero, reduceIte, seval, -BitVec.isValue, -BitVec.reduceOfNat, -List.reduceReplicate]
    simp
  · have e1 : ((k : Int) + 1) = ((k + 1 : Nat) : Int) := by omega
    by_cases hd : k < n
    · have hd' : (k : Int) < n := by omega
      refine AW_run CtOK_nil 1000 ?_
      simp (maxSteps := 10000000) (disch := omega) only [go_sem, σpow2, hd', pw_two, reduceIte, seval, -BitVec.isValue, -BitVec.reduceOfNat, -List.reduceReplicate]
      refine ⟨k + 1, by omega, Wk_p [] ?_, by omega⟩
      simp only [go_sem, σpow2, e1, reduceIte, seval, -BitVec.isValue, -BitVec.reduceOfNat, -List.reduceReplicate]
      simp [← pw_two]
    · have : k = n := by omega
      subst this
      have hd' : ¬ ((k : Int) < k) := by omega
      refine AW_run CtOK_nil 1000 ?_
      simp (maxSteps := 10000000) (disch := omega) only [go_sem, σpow2, hd', Int.toNat_natCast, reduceIte, seval, -BitVec.isValue, -BitVec.reduceOfNat, -List.reduceReplicate]
def ctPower : Nat × (List AV → R) := (143, A1 fun m : Int => (0 ≤ m ∧ m ≤ 25, .u64 (pw m.toNat)))
theorem ctPower_ok {Ct : List (Nat × (List AV → R))} (h : CtOK Tryz.prog Gs Ct) : CtOK Tryz.prog Gs (ctPower :: Ct) := CtOK_cons (Row1 fun k h => power_fun k h.1 h.2) h
theorem Leaves_fun (l : Lms) (h : lmsSm l) : Fun Tryz.prog Gs 94 [Enc.enc l] (.u64 (pw l.h.toNat)) := by
  refine Fun_cc [ctPower] mo Tryz.func94 (by decide) cc94 rs94 Tryz.ntmps94 (by simp) ?_
  have hct := ctPower_ok CtOK_nil
  obtain ⟨h1, h2, h3, h4⟩ := h
  refine AW_run hct 1000 ?_
  simp (maxSteps := 10000000) (disch := omega) only [go_sem, c94, ctPower, reduceIte, seval, -BitVec.isValue, -BitVec.reduceOfNat, -List.reduceReplicate]
def ctLeaves : Nat × (List AV → R) := (94, A1 fun l : Lms => (lmsSm l, .u64 (pw l.h.toNat)))
theorem ctLeaves_ok {Ct : List (Nat × (List AV → R))} (h : CtOK Tryz.prog Gs Ct) : CtOK Tryz.prog Gs (ctLeaves :: Ct) := CtOK_cons (Row1 fun k h => Leaves_fun k h) h
theorem lvc_at' (ls : List Level) (i : Nat) (h : i < ls.length) : ((lvc ls).drop (i * 2)).take 2 = [.u32 (ls.getD i lv0).a, .u32 (ls.getD i lv0).b] := lvc_at ls i h
def σco (ls : List Level) (k : Nat) : St := ⟨[(3, .u64 (pw (hs ls k))), (9, .ros false ls.length (lvc ls)), (10, .i ls.length), (11, .i k)], [], 0⟩
theorem count_fun (ls : Lvs) (hl : ls.l.length ≤ 140737488351232) : Fun Tryz.prog Gs 134 [Enc.enc ls] (.u64 (pw (hs ls.l ls.l.length))) := by
  obtain ⟨ls⟩ := ls
  simp only at hl ⊢
  refine Fun_cc [ctSets] mo Tryz.func134 (by decide) cc134 rs134 Tryz.ntmps134 (by simp) ?_
  have hct := ctSets_ok CtOK_nil
  refine AW_run hct 1000 ?_
  simp (maxSteps := 10000000) (disch := omega) only [go_sem, c134, reduceIte, seval, -BitVec.isValue, -BitVec.reduceOfNat, -List.reduceReplicate]
  refine AW_loop (σco ls) (fun k => k ≤ ls.length) (fun k => ls.length - k) 0 (Nat.zero_le _) (Wk_p [] ?_) fun k hk => ?_
  · simp only [go_sem, σco, hs_zero, pw_zero, reduceIte, seval, -BitVec.isValue, -BitVec.reduceOfNat, -List.reduceReplicate]
    simp
  · have e1 : ((k : Int) + 1) = ((k + 1 : Nat) : Int) := by omega
    by_cases hd : k < ls.length
    · have hd' : (k : Int) < ls.length := by omega
      have hat := lvc_at' ls k hd
      have hsu := hs_succ ls k hd
      obtain ⟨v, hv⟩ : ∃ v, v = ls.getD k lv0 := ⟨_, rfl⟩
      rw [← hv] at hat hsu
      have hb := hN_eq v
      have hn := hN_le v
      refine AW_run hct 1000 ?_
      simp (maxSteps := 10000000) (disch := omega) only [go_sem, σco, ctSets, hd', hat, hb, pw_shl, reduceIte, seval, -BitVec.isValue, -BitVec.reduceOfNat, -List.reduceReplicate]
      refine ⟨k + 1, by omega, Wk_p [] ?_, by omega⟩
      simp only [go_sem, σco, e1, hsu, reduceIte, seval, -BitVec.isValue, -BitVec.reduceOfNat, -List.reduceReplicate]
      try simp
    · have : k = ls.length := by omega
      subst this
      have hd' : ¬ ((ls.length : Int) < ls.length) := by omega
      refine AW_run hct 1000 ?_
      simp (maxSteps := 10000000) (disch := omega) only [go_sem, σco, ctSets, hd', reduceIte, seval, -BitVec.isValue, -BitVec.reduceOfNat, -List.reduceReplicate]
def ctCount (n : Nat) : Nat × (List AV → R) := (n, A1 fun ls : Lvs => (ls.l.length ≤ 140737488351232, .u64 (pw (hs ls.l ls.l.length))))
theorem ctCount_ok {Ct : List (Nat × (List AV → R))} (h : CtOK Tryz.prog Gs Ct) : CtOK Tryz.prog Gs (ctCount 134 :: Ct) := CtOK_cons (Row1 fun k h => count_fun k h) h
end Go.Lv
namespace Go.Lv
open Go Go.Proofs
set_option linter.unusedSimpArgs false
set_option maxRecDepth 100000
def fst (ls : List Level) : Lms := lmsX (ls.getD 0 lv0).a
def good (f : Lms) (v : Level) : Prop := vfit v ∧ (lmsX v.a).n = f.n ∧ (lmsX v.a).shake = f.shake
instance (f : Lms) (v : Level) : Decidable (good f v) := by unfold good; infer_instance
def mayP (ls : List Level) : Prop := 1 ≤ ls.length ∧ ls.length ≤ 8 ∧ (∀ j, j < ls.length → good (fst ls) (ls.getD j lv0)) ∧ hs ls ls.length ≤ 60
instance (ls : List Level) : Decidable (mayP ls) := by unfold mayP; infer_instance
theorem mayP_not (ls : List Level) (k : Nat) (hk : k < ls.length) (h : ¬ good (fst ls) (ls.getD k lv0)) : ¬ mayP ls := fun ⟨_, _, c, _⟩ => h (c k hk)
theorem vfit_a (v : Level) (h : vfit v) : ¬ v.a = 0#32 := fun e => (vfit_some v h).1 (by rw [e]; decide +kernel)
def σma (ls : List Level) (k : Nat) : St := ⟨[(3, .ptr 0 0), (6, .i (hs ls k)), (28, .ros false ls.length (lvc ls)), (29, .i ls.length), (30, .i k)], [(0, ⟨[.u32 (fst ls).code, .b (fst ls).shake, .i (fst ls).n, .i (fst ls).h], true⟩)], 1⟩
set_option maxHeartbeats 4000000 in
theorem May_fun (ls : Lvs) (hl : ls.l.length ≤ 140737488351232) : Fun Tryz.prog Gs 73 [Enc.enc ls] (.i (if mayP ls.l then 0 else 90)) := by
  obtain ⟨ls⟩ := ls
  simp only at hl ⊢
  refine Fun_cc [ctSets] mo Tryz.func73 (by decide) cc73 rs73 Tryz.ntmps73 (by simp) ?_
  have hct := ctSets_ok CtOK_nil
  by_cases h1 : ls.length < 1
  · rw [if_neg (fun h => by have := h.1; omega)]
    have h1' : (ls.length : Int) < 1 := by omega
    refine AW_run hct 1000 ?_
    simp (maxSteps := 10000000) (disch := omega) only [go_sem, c73, h1', reduceIte, seval, -BitVec.isValue, -BitVec.reduceOfNat, -List.reduceReplicate]
  by_cases h8 : 8 < ls.length
  · rw [if_neg (fun h => by have := h.2.1; omega)]
    have h1' : ¬ ((ls.length : Int) < 1) := by omega
    have h8' : (8 : Int) < ls.length := by omega
    refine AW_run hct 1000 ?_
    simp (maxSteps := 10000000) (disch := omega) only [go_sem, c73, h1', h8', reduceIte, seval, -BitVec.isValue, -BitVec.reduceOfNat, -List.reduceReplicate]
  have h1' : ¬ ((ls.length : Int) < 1) := by omega
  have h8' : ¬ ((8 : Int) < ls.length) := by omega
  have h0 : 0 < ls.length := by omega
  have hat0 := lvc_at' ls 0 h0
  rw [Nat.zero_mul, List.drop_zero] at hat0
  refine AW_run hct 1000 ?_
  simp (maxSteps := 10000000) (disch := omega) only [go_sem, c73, ctSets, h1', h8', hat0, reduceIte, seval, -BitVec.isValue, -BitVec.reduceOfNat, -List.reduceReplicate]
  refine AW_loop (σma ls) (fun k => k ≤ ls.length ∧ ∀ j, j < k → good (fst ls) (ls.getD j lv0)) (fun k => ls.length - k) 0 ⟨Nat.zero_le _, fun j hj => absurd hj (Nat.not_lt_zero _)⟩ (Wk_p [(0, 0)] ?_) fun k hk => ?_
  · simp only [go_sem, σma, hs_zero, reduceIte, seval, -BitVec.isValue, -BitVec.reduceOfNat, -List.reduceReplicate]
    try simp [fst]
  · obtain ⟨hk, hg⟩ := hk
    have e1 : ((k : Int) + 1) = ((k + 1 : Nat) : Int) := by omega
    have hsl := hs_le ls k hk
    by_cases hd : k < ls.length
    · have hd' : (k : Int) < ls.length := by omega
      have hat := lvc_at' ls k hd
      have hsu := hs_succ ls k hd
      by_cases hgd : good (fst ls) (ls.getD k lv0)
      · obtain ⟨v, hv⟩ : ∃ v, v = ls.getD k lv0 := ⟨_, rfl⟩
        rw [← hv] at hat hsu hgd
        have hg2 : ∀ j, j < k + 1 → good (fst ls) (ls.getD j lv0) := fun j hj => by
          by_cases e : j < k
          · exact hg j e
          · rw [show j = k by omega, ← hv]; exact hgd
        obtain ⟨g1, g2, g3⟩ := hgd
        have ga := vfit_a v g1
        have hb := hN_eq v
        have hn := hN_le v
        refine AW_run hct 1000 ?_
        simp (maxSteps := 10000000) (disch := omega) only [go_sem, σma, ctSets, hd', hat, eq_true g1, decide_true, eqL, eq1, ga, decide_false, Bool.false_and, g2, g3, hb, reduceIte, seval, -BitVec.isValue, -BitVec.reduceOfNat, -List.reduceReplicate]
        refine ⟨k + 1, ⟨by omega, hg2⟩, Wk_p [(0, 0)] ?_, by omega⟩
        simp only [go_sem, σma, e1, hsu, reduceIte, seval, -BitVec.isValue, -BitVec.reduceOfNat, -List.reduceReplicate]
        try simp
      · rw [if_neg (mayP_not ls k hd hgd)]
        obtain ⟨v, hv⟩ : ∃ v, v = ls.getD k lv0 := ⟨_, rfl⟩
        rw [← hv] at hat hsu hgd
        by_cases g1 : vfit v
        · have ga := vfit_a v g1
          by_cases g2 : (lmsX v.a).n = (fst ls).n
          · have g3 : ¬ (lmsX v.a).shake = (fst ls).shake := fun e => hgd ⟨g1, g2, e⟩
            refine AW_run hct 1000 ?_
            simp (maxSteps := 10000000) (disch := omega) only [go_sem, σma, ctSets, hd', hat, eq_true g1, decide_true, eqL, eq1, ga, decide_false, Bool.false_and, g2, g3, reduceIte, seval, -BitVec.isValue, -BitVec.reduceOfNat, -List.reduceReplicate]
          · refine AW_run hct 1000 ?_
            simp (maxSteps := 10000000) (disch := omega) only [go_sem, σma, ctSets, hd', hat, eq_true g1, decide_true, eqL, eq1, ga, decide_false, Bool.false_and, g2, reduceIte, seval, -BitVec.isValue, -BitVec.reduceOfNat, -List.reduceReplicate]
        · by_cases ga : v.a = 0#32
          · by_cases gb : v.b = 0#32
            · refine AW_run hct 1000 ?_
              simp (maxSteps := 10000000) (disch := omega) only [go_sem, σma, ctSets, hd', hat, g1, decide_true, eqL, eq1, eq_true ga, eq_true gb, decide_false, Bool.and_self, reduceIte, seval, -BitVec.isValue, -BitVec.reduceOfNat, -List.reduceReplicate]
            · refine AW_run hct 1000 ?_
              simp (maxSteps := 10000000) (disch := omega) only [go_sem, σma, ctSets, hd', hat, g1, decide_true, eqL, eq1, eq_true ga, gb, decide_false, Bool.and_false, Bool.true_and, reduceIte, seval, -BitVec.isValue, -BitVec.reduceOfNat, -List.reduceReplicate]
          · refine AW_run hct 1000 ?_
            simp (maxSteps := 10000000) (disch := omega) only [go_sem, σma, ctSets, hd', hat, g1, decide_true, eqL, eq1, ga, decide_false, Bool.false_and, reduceIte, seval, -BitVec.isValue, -BitVec.reduceOfNat, -List.reduceReplicate]
    · have : k = ls.length := by omega
      subst this
      have hd' : ¬ ((ls.length : Int) < ls.length) := by omega
      by_cases h60 : hs ls ls.length ≤ 60
      · have h60' : ¬ ((60 : Int) < hs ls ls.length) := by omega
        rw [if_pos ⟨by omega, by omega, hg, h60⟩]
        refine AW_run hct 1000 ?_
        simp (maxSteps := 10000000) (disch := omega) only [go_sem, σma, ctSets, hd', h60', reduceIte, seval, -BitVec.isValue, -BitVec.reduceOfNat, -List.reduceReplicate]
      · have h60' : ((60 : Int) < hs ls ls.length) := by omega
        rw [if_neg (fun h => h60 h.2.2.2)]
        refine AW_run hct 1000 ?_
        simp (maxSteps := 10000000) (disch := omega) only [go_sem, σma, ctSets, hd', h60', reduceIte, seval, -BitVec.isValue, -BitVec.reduceOfNat, -List.reduceReplicate]
def σrma (ls : List Level) (k : Nat) : St := ⟨[(3, .ptr 0 0), (5, .i (hs ls k)), (25, .ros false ls.length (lvc ls)), (26, .i ls.length), (27, .i k)], [(0, ⟨[.u32 (fst ls).code, .b (fst ls).shake, .i (fst ls).n, .i (fst ls).h], true⟩)], 1⟩
set_option maxHeartbeats 4000000 in
theorem rMayL_fun (ls : Lvs) (hl : ls.l.length ≤ 140737488351232) : Fun Tryz.prog Gs 77 [Enc.enc ls] (.b (decide (mayP ls.l))) := by
  obtain ⟨ls⟩ := ls
  simp only at hl ⊢
  refine Fun_cc [ctRSets, ctRFits] mo Tryz.func77 (by decide) cc77 rs77 Tryz.ntmps77 (by simp) ?_
  have hct := ctRSets_ok (ctRFits_ok CtOK_nil)
  by_cases h1 : ls.length < 1
  · rw [decide_eq_false (fun h => by have := h.1; omega)]
    have h1' : (ls.length : Int) < 1 := by omega
    refine AW_run hct 1000 ?_
    simp (maxSteps := 10000000) (disch := omega) only [go_sem, c77, h1', reduceIte, seval, -BitVec.isValue, -BitVec.reduceOfNat, -List.reduceReplicate]
  by_cases h8 : 8 < ls.length
  · rw [decide_eq_false (fun h => by have := h.2.1; omega)]
    have h1' : ¬ ((ls.length : Int) < 1) := by omega
    have h8' : (8 : Int) < ls.length := by omega
    refine AW_run hct 1000 ?_
    simp (maxSteps := 10000000) (disch := omega) only [go_sem, c77, h1', h8', reduceIte, seval, -BitVec.isValue, -BitVec.reduceOfNat, -List.reduceReplicate]
  have h1' : ¬ ((ls.length : Int) < 1) := by omega
  have h8' : ¬ ((8 : Int) < ls.length) := by omega
  have h0 : 0 < ls.length := by omega
  have hat0 := lvc_at' ls 0 h0
  rw [Nat.zero_mul, List.drop_zero] at hat0
  refine AW_run hct 1000 ?_
  simp (maxSteps := 10000000) (disch := omega) only [go_sem, c77, ctRSets, ctRFits, h1', h8', hat0, reduceIte, seval, -BitVec.isValue, -BitVec.reduceOfNat, -List.reduceReplicate]
  refine AW_loop (σrma ls) (fun k => k ≤ ls.length ∧ ∀ j, j < k → good (fst ls) (ls.getD j lv0)) (fun k => ls.length - k) 0 ⟨Nat.zero_le _, fun j hj => absurd hj (Nat.not_lt_zero _)⟩ (Wk_p [(0, 0)] ?_) fun k hk => ?_
  · simp only [go_sem, σrma, hs_zero, reduceIte, seval, -BitVec.isValue, -BitVec.reduceOfNat, -List.reduceReplicate]
    try simp [fst]
  · obtain ⟨hk, hg⟩ := hk
    have e1 : ((k : Int) + 1) = ((k + 1 : Nat) : Int) := by omega
    have hsl := hs_le ls k hk
    by_cases hd : k < ls.length
    · have hd' : (k : Int) < ls.length := by omega
      have hat := lvc_at' ls k hd
      have hsu := hs_succ ls k hd
      by_cases hgd : good (fst ls) (ls.getD k lv0)
      · obtain ⟨v, hv⟩ : ∃ v, v = ls.getD k lv0 := ⟨_, rfl⟩
        rw [← hv] at hat hsu hgd
        have hg2 : ∀ j, j < k + 1 → good (fst ls) (ls.getD j lv0) := fun j hj => by
          by_cases e : j < k
          · exact hg j e
          · rw [show j = k by omega, ← hv]; exact hgd
        obtain ⟨g1, g2, g3⟩ := hgd
        have hb := hN_eq v
        have hn := hN_le v
        refine AW_run hct 1000 ?_
        simp (maxSteps := 10000000) (disch := omega) only [go_sem, σrma, ctRSets, ctRFits, hd', hat, lv_eta, eq_true g1, decide_true, g2, g3, hb, reduceIte, seval, -BitVec.isValue, -BitVec.reduceOfNat, -List.reduceReplicate]
        refine ⟨k + 1, ⟨by omega, hg2⟩, Wk_p [(0, 0)] ?_, by omega⟩
        simp only [go_sem, σrma, e1, hsu, reduceIte, seval, -BitVec.isValue, -BitVec.reduceOfNat, -List.reduceReplicate]
        try simp
      · rw [decide_eq_false (mayP_not ls k hd hgd)]
        obtain ⟨v, hv⟩ : ∃ v, v = ls.getD k lv0 := ⟨_, rfl⟩
        rw [← hv] at hat hsu hgd
        by_cases g1 : vfit v
        · by_cases g3 : (lmsX v.a).shake = (fst ls).shake
          · have g2 : ¬ (lmsX v.a).n = (fst ls).n := fun e => hgd ⟨g1, e, g3⟩
            refine AW_run hct 1000 ?_
            simp (maxSteps := 10000000) (disch := omega) only [go_sem, σrma, ctRSets, ctRFits, hd', hat, lv_eta, eq_true g1, decide_true, decide_false, g2, g3, reduceIte, seval, -BitVec.isValue, -BitVec.reduceOfNat, -List.reduceReplicate]
          · refine AW_run hct 1000 ?_
            simp (maxSteps := 10000000) (disch := omega) only [go_sem, σrma, ctRSets, ctRFits, hd', hat, lv_eta, eq_true g1, decide_true, decide_false, g3, reduceIte, seval, -BitVec.isValue, -BitVec.reduceOfNat, -List.reduceReplicate]
        · refine AW_run hct 1000 ?_
          simp (maxSteps := 10000000) (disch := omega) only [go_sem, σrma, ctRSets, ctRFits, hd', hat, lv_eta, g1, decide_false, reduceIte, seval, -BitVec.isValue, -BitVec.reduceOfNat, -List.reduceReplicate]
    · have : k = ls.length := by omega
      subst this
      have hd' : ¬ ((ls.length : Int) < ls.length) := by omega
      by_cases h60 : hs ls ls.length ≤ 60
      · have h60' : ((hs ls ls.length : Int) ≤ 60) := by omega
        rw [decide_eq_true (show mayP ls from ⟨by omega, by omega, hg, h60⟩)]
        refine AW_run hct 1000 ?_
        simp (maxSteps := 10000000) (disch := omega) only [go_sem, σrma, ctRSets, ctRFits, hd', h60', reduceIte, seval, -BitVec.isValue, -BitVec.reduceOfNat, -List.reduceReplicate]
        try simp
        try omega
      · have h60' : ¬ ((hs ls ls.length : Int) ≤ 60) := by omega
        rw [decide_eq_false (fun h => h60 h.2.2.2)]
        refine AW_run hct 1000 ?_
        simp (maxSteps := 10000000) (disch := omega) only [go_sem, σrma, ctRSets, ctRFits, hd', h60', reduceIte, seval, -BitVec.isValue, -BitVec.reduceOfNat, -List.reduceReplicate]
        try simp
        try omega
def ctMayL : Nat × (List AV → R) := (73, A1 fun ls : Lvs => (ls.l.length ≤ 140737488351232, .i (if mayP ls.l then 0 else 90)))
theorem ctMayL_ok {Ct : List (Nat × (List AV → R))} (h : CtOK Tryz.prog Gs Ct) : CtOK Tryz.prog Gs (ctMayL :: Ct) := CtOK_cons (Row1 fun k h => May_fun k h) h
def ctRMayL : Nat × (List AV → R) := (77, A1 fun ls : Lvs => (ls.l.length ≤ 140737488351232, .b (decide (mayP ls.l))))
theorem ctRMayL_ok {Ct : List (Nat × (List AV → R))} (h : CtOK Tryz.prog Gs Ct) : CtOK Tryz.prog Gs (ctRMayL :: Ct) := CtOK_cons (Row1 fun k h => rMayL_fun k h) h
end Go.Lv
namespace Go.Lv
open Go Go.Proofs
set_option linter.unusedSimpArgs false
set_option maxRecDepth 100000
@[go_sem] theorem lvc_fz7 (H : List (Nat × Seg)) (fl : Bool) (ls : List Level) : (lvc ls).map (frz H 7 fl) = lvc ls := lvc_fz H 6 fl ls
theorem Count_fun (ls : Lvs) (hl : ls.l.length ≤ 140737488351232) : Fun Tryz.prog Gs 81 [Enc.enc ls] (.tup [.u64 (if mayP ls.l then pw (hs ls.l ls.l.length) else 0), .i (if mayP ls.l then 0 else 90)]) := by
  refine Fun_cc [ctMayL, ctCount 134] mo Tryz.func81 (by decide) cc81 rs81 Tryz.ntmps81 (by simp) ?_
  have hct := ctMayL_ok (ctCount_ok CtOK_nil)
  by_cases h : mayP ls.l
  · refine AW_run hct 1000 ?_
    simp (maxSteps := 10000000) (disch := omega) only [go_sem, c81, ctMayL, ctCount, h, reduceIte, seval, -BitVec.isValue, -BitVec.reduceOfNat, -List.reduceReplicate]
  · refine AW_run hct 1000 ?_
    simp (maxSteps := 10000000) (disch := omega) only [go_sem, c81, ctMayL, ctCount, h, reduceIte, seval, -BitVec.isValue, -BitVec.reduceOfNat, -List.reduceReplicate]
def ctCountL : Nat × (List AV → R) := (81, A1 fun ls : Lvs => (ls.l.length ≤ 140737488351232, .tup [.u64 (if mayP ls.l then pw (hs ls.l ls.l.length) else 0), .i (if mayP ls.l then 0 else 90)]))
theorem ctCountL_ok {Ct : List (Nat × (List AV → R))} (h : CtOK Tryz.prog Gs Ct) : CtOK Tryz.prog Gs (ctCountL :: Ct) := CtOK_cons (Row1 fun k h => Count_fun k h) h
end Go.Lv
namespace Go.Lv
open Go Go.Proofs
set_option linter.unusedSimpArgs false
set_option maxRecDepth 100000
theorem one_shl (h : Nat) : 1#64 <<< h = pw h := by rw [← pw_zero, pw_shl, Nat.zero_add]
def leafS (ls : List Level) (x : BitVec 64) (i : Nat) : BitVec 32 := ((x >>> (hs ls ls.length - hs ls (i + 1))) &&& (pw (hN (ls.getD i lv0)) - 1#64)).setWidth 32
def leaves (ls : List Level) (x : BitVec 64) : List (BitVec 32) := (List.range ls.length).map (leafS ls x)
def outL (ls : List Level) (x : BitVec 64) (i : Nat) : List (BitVec 32) := (List.range ls.length).map fun j => if i ≤ j then leafS ls x j else 0#32
theorem outL_zero (ls : List Level) (x : BitVec 64) : outL ls x 0 = leaves ls x := by
  unfold outL leaves
  apply List.map_congr_left
  intro j _
  rw [if_pos (Nat.zero_le _)]
theorem outL_len (ls : List Level) (x : BitVec 64) (i : Nat) : (outL ls x i).length = ls.length := by simp [outL]
theorem outL_all (ls : List Level) (x : BitVec 64) : outL ls x ls.length = List.replicate ls.length 0#32 := by
  unfold outL
  apply List.ext_getElem (by simp)
  intro j h1 h2
  simp only [List.getElem_map, List.getElem_range, List.getElem_replicate]
  rw [if_neg (by simp at h1; omega)]
theorem outL_set (ls : List Level) (x : BitVec 64) (i : Nat) (h : i < ls.length) : (outL ls x (i + 1)).set i (leafS ls x i) = outL ls x i := by
  unfold outL
  apply List.ext_getElem (by simp)
  intro j h1 h2
  simp only [List.getElem_set, List.getElem_map, List.getElem_range]
  by_cases e : i = j
  · subst e; simp
  · by_cases e2 : i ≤ j
    · rw [if_neg e, if_pos e2, if_pos (by omega)]
    · rw [if_neg e, if_neg e2, if_neg (by omega)]
theorem hs_mono (ls : List Level) (i : Nat) : ∀ d, i + d ≤ ls.length → hs ls i ≤ hs ls (i + d)
  | 0, _ => Nat.le_refl _
  | d + 1, h => by have := hs_mono ls i d (by omega); rw [← Nat.add_assoc, hs_succ ls (i + d) (by omega)]; omega
def splitE (ls : List Level) (x : BitVec 64) : Int := if mayP ls then if x < pw (hs ls ls.length) then 0 else 80 else 90
def splitL (ls : List Level) (x : BitVec 64) : List (BitVec 32) := if mayP ls then if x < pw (hs ls ls.length) then leaves ls x else [] else []
def σsp (ls : List Level) (x : BitVec 64) (m : Nat) : St := ⟨[(0, .ros false ls.length (lvc ls)), (1, .u64 (x >>> (hs ls ls.length - hs ls m))), (7, .sl 0 0 ls.length 1), (8, .i ((m : Int) - 1))], [(0, ⟨(outL ls x m).map .u32, true⟩)], 1⟩
set_option maxHeartbeats 4000000 in
theorem Split_fun (ls : Lvs) (x : BitVec 64) (hl : ls.l.length ≤ 140737488351232) : Fun Tryz.prog Gs 82 [Enc.enc ls, Enc.enc x] (.tup [Enc.ret (splitL ls.l x), .i (splitE ls.l x)]) := by
  obtain ⟨ls⟩ := ls
  simp only at hl ⊢
  refine Fun_cc [ctMayL, ctCount 134, ctSets] mo Tryz.func82 (by decide) cc82 rs82 Tryz.ntmps82 (by simp) ?_
  have hct := ctMayL_ok (ctCount_ok (ctSets_ok CtOK_nil))
  by_cases hm : mayP ls
  · have h8 := hm.2.1
    have h1 := hm.1
    by_cases hx : x < pw (hs ls ls.length)
    · rw [splitL, splitE, if_pos hm, if_pos hm, if_pos hx, if_pos hx]
      have hx' : ¬ (pw (hs ls ls.length) ≤ x) := by rw [BitVec.le_def]; rw [BitVec.lt_def] at hx; omega
      refine AW_run hct 1000 ?_
      simp (maxSteps := 10000000) (disch := omega) only [go_sem, c82, ctMayL, ctCount, ctSets, hm, hx', reduceIte, seval, -BitVec.isValue, -BitVec.reduceOfNat, -List.reduceReplicate]
      refine AW_loop (σsp ls x) (fun m => m ≤ ls.length) (fun m => m) ls.length (Nat.le_refl _) (Wk_p [(0, 0)] ?_) fun m hk => ?_
      · simp only [go_sem, σsp, outL_all, Nat.sub_self, reduceIte, seval, -BitVec.isValue, -BitVec.reduceOfNat, -List.reduceReplicate]
        try simp
      · by_cases hd : 0 < m
        · obtain ⟨i, rfl⟩ : ∃ i, m = i + 1 := ⟨m - 1, by omega⟩
          have e1 : (((i + 1 : Nat) : Int) - 1) = (i : Int) := by omega
          have hat := lvc_at' ls i (by omega)
          have hsu := hs_succ ls i (by omega)
          have hset := outL_set ls x i (by omega)
          rw [leafS] at hset
          have hmo := hs_mono ls (i + 1) (ls.length - (i + 1)) (by omega)
          rw [Nat.add_sub_cancel' hk] at hmo
          obtain ⟨v, hv⟩ : ∃ v, v = ls.getD i lv0 := ⟨_, rfl⟩
          rw [← hv] at hat hsu hset
          have hb := hN_eq v
          have hn := hN_le v
          have e2 : hs ls ls.length - hs ls (i + 1) + hN v = hs ls ls.length - hs ls i := by omega
          have hol := outL_len ls x (i + 1)
          refine AW_run hct 1000 ?_
          simp (maxSteps := 10000000) (disch := omega) only [go_sem, σsp, ctMayL, ctCount, ctSets, e1, hat, hb, one_shl, List.length_map, hol, reduceIte, seval, -BitVec.isValue, -BitVec.reduceOfNat, -List.reduceReplicate]
          refine ⟨i, by omega, Wk_p [(0, 0)] ?_, by omega⟩
          simp only [go_sem, σsp, e1, reduceIte, seval, -BitVec.isValue, -BitVec.reduceOfNat, -List.reduceReplicate]
          simp
          exact ⟨by rw [← BitVec.shiftRight_add, e2], by rw [← BitVec.setWidth_and, one_shl, ← List.map_set, hset]⟩
        · have : m = 0 := by omega
          subst this
          refine AW_run hct 1000 ?_
          simp (maxSteps := 10000000) (disch := omega) only [go_sem, σsp, ctMayL, ctCount, ctSets, outL_zero, reduceIte, seval, -BitVec.isValue, -BitVec.reduceOfNat, -List.reduceReplicate]
          have : (leaves ls x).length = ls.length := by simp [leaves]
          simp [this]
          rw [List.take_of_length_le (by simp [this])]
    · rw [splitL, splitE, if_pos hm, if_pos hm, if_neg hx, if_neg hx]
      have hx' : (pw (hs ls ls.length) ≤ x) := by rw [BitVec.le_def]; rw [BitVec.lt_def] at hx; omega
      refine AW_run hct 1000 ?_
      simp (maxSteps := 10000000) (disch := omega) only [go_sem, c82, ctMayL, ctCount, ctSets, hm, hx', reduceIte, seval, -BitVec.isValue, -BitVec.reduceOfNat, -List.reduceReplicate]
      try simp
  · rw [splitL, splitE, if_neg hm, if_neg hm]
    refine AW_run hct 1000 ?_
    simp (maxSteps := 10000000) (disch := omega) only [go_sem, c82, ctMayL, ctCount, ctSets, hm, reduceIte, seval, -BitVec.isValue, -BitVec.reduceOfNat, -List.reduceReplicate]
    try simp
def ctSplit : Nat × (List AV → R) := (82, A2 fun (ls : Lvs) (x : BitVec 64) => (ls.l.length ≤ 140737488351232, .tup [Enc.ret (splitL ls.l x), .i (splitE ls.l x)]))
theorem ctSplit_ok {Ct : List (Nat × (List AV → R))} (h : CtOK Tryz.prog Gs Ct) : CtOK Tryz.prog Gs (ctSplit :: Ct) := CtOK_cons (Row2 fun k x h => Split_fun k x h) h
end Go.Lv
namespace Go.Lv
open Go Go.Proofs
set_option linter.unusedSimpArgs false
set_option maxRecDepth 100000
def exL : List Level := [⟨4026531858, 6⟩, ⟨4026531859, 6⟩]
theorem exL_may : mayP exL := by decide +kernel
theorem exL_hs : pw (hs exL exL.length) = 32 := by decide +kernel
theorem exL_split : splitL exL (13 : BitVec 64) = [1, 5] := by decide +kernel
theorem exL_splitE : splitE exL (13 : BitVec 64) = 0 := by decide +kernel
theorem nil_may : mayP [] = False := eq_false (by decide +kernel)
theorem May_nil : Fun Tryz.prog Gs 73 [.ros true 0 []] (.i 90) := by
  refine Fun_cc [] mo Tryz.func73 (by decide) cc73 rs73 Tryz.ntmps73 (by simp) ?_
  refine AW_run CtOK_nil 1000 ?_
  simp (maxSteps := 10000000) (disch := omega) only [go_sem, c73, reduceIte, seval, -BitVec.isValue, -BitVec.reduceOfNat, -List.reduceReplicate]
def ctMayN : Nat × (List AV → R) := (73, fun l => (l = [.ros true 0 []], .i 90))
theorem ctMayN_ok {Ct : List (Nat × (List AV → R))} (h : CtOK Tryz.prog Gs Ct) : CtOK Tryz.prog Gs (ctMayN :: Ct) := CtOK_cons (fun l h => by
  have h : l = [.ros true 0 []] := h
  subst h; exact May_nil) h
set_option maxHeartbeats 4000000 in
theorem live9_fun : Fun Tryz.prog Gs 33 [] (.b true) := by
  refine Fun_cc [ctMayN, ctCountL, ctSplit] mo Tryz.func33 (by decide) cc33 rs33 Tryz.ntmps33 (by simp) ?_
  have hct := ctMayN_ok (ctCountL_ok (ctSplit_ok CtOK_nil))
  have m := eq_true exL_may
  have h := exL_hs
  have s := exL_split
  have e := exL_splitE
  simp only [exL] at m h s e
  refine AW_run hct 1000 ?_
  simp (maxSteps := 10000000) (disch := omega) only [go_sem, c33, ctMayN, ctCountL, ctSplit, m, h, s, e, nil_may, List.length_cons, List.length_nil, reduceIte, seval, -BitVec.isValue, -BitVec.reduceOfNat, -List.reduceReplicate]
def ctLive9 : Nat × (List AV → R) := (33, A0 (True, .b true))
theorem ctLive9_ok {Ct : List (Nat × (List AV → R))} (h : CtOK Tryz.prog Gs Ct) : CtOK Tryz.prog Gs (ctLive9 :: Ct) := CtOK_cons (Row0 fun _ => live9_fun) h
end Go.Lv
