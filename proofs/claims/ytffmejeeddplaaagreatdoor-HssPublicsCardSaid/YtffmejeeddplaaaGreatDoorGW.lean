/- A part of the proof (GW). -/
import Derived.Test.YtffmejeeddplaaaGreatDoorGU
import Derived.Test.YtffmejeeddplaaaGreatDoorFD
import Derived.Test.YtffmejeeddplaaaGreatDoorGK
set_option linter.all false
namespace Go.Lv
open Go Go.Proofs
set_option linter.unusedSimpArgs false
set_option maxRecDepth 100000
theorem turn_fun (x : BitVec 64) (k : Int) (h : 0 ≤ k ∧ k < 64) : Fun Tryz.prog Gs 281 [Enc.enc x, Enc.enc k] (.u64 (rl x k.toNat)) := by
  obtain ⟨k, rfl⟩ := Int.eq_ofNat_of_zero_le h.1
  have hk : k < 64 := by omega
  refine Fun_cc [] mo Tryz.func281 (by decide) cc281 rs281 Tryz.ntmps281 (by simp) ?_
  refine AW_run CtOK_nil 1000 ?_
  have e2 : (BitVec.ofInt 64 (k : Int)).toNat = k := by rw [BitVec.toNat_ofInt]; omega
  have e3 : (BitVec.ofInt 64 (64 - (k : Int))).toNat = 64 - k := by rw [BitVec.toNat_ofInt]; omega
  by_cases h0 : k = 0
  · subst h0
    have e : x >>> 64 = 0 := by
      apply BitVec.eq_of_toNat_eq
      rw [BitVec.toNat_ushiftRight, Nat.shiftRight_eq_div_pow]
      exact Nat.div_eq_of_lt x.isLt
    simp (maxSteps := 10000000) (disch := omega) only [go_sem, c281, reduceIte, seval, -BitVec.isValue, -BitVec.reduceOfNat, -List.reduceReplicate]
    simp [rl, e]
  · have h1 : ¬ ((k : Int) = 0) := by omega
    simp (maxSteps := 10000000) (disch := omega) only [go_sem, c281, h1, e2, e3, reduceIte, seval, -BitVec.isValue, -BitVec.reduceOfNat, -List.reduceReplicate]
    simp only [e2, e3, rl, Int.toNat_natCast]
def ctTurn : Nat × (List AV → R) := (281, A2 fun (x : BitVec 64) (k : Int) => (0 ≤ k ∧ k < 64, .u64 (rl x k.toNat)))
theorem ctTurn_ok {Ct : List (Nat × (List AV → R))} (h : CtOK Tryz.prog Gs Ct) : CtOK Tryz.prog Gs (ctTurn :: Ct) := CtOK_cons (Row2 fun x k h => turn_fun x k h) h
def sF (A : La) : Nat → La
  | 0 => List.replicate 5 0
  | i + 1 => (sF A i).set (i % 5) ((sF A i).getD (i % 5) 0 ^^^ A.getD i 0)
theorem sF_len (A : La) : ∀ i, (sF A i).length = 5
  | 0 => rfl
  | i + 1 => by simp [sF, sF_len A i]
theorem sF_all (A : La) : sF A 25 = cL A := by
  simp only [sF, cL, colC, List.replicate, List.range_succ, List.range_zero, List.nil_append, List.cons_append, List.map_cons, List.map_nil]
  simp
theorem sF0 (A : La) : (sF A 0).map AV.u64 = [.u64 0, .u64 0, .u64 0, .u64 0, .u64 0] := rfl
def tA' (A : La) (k : Nat) : BitVec 64 := A.getD k 0 ^^^ ((cL A).getD ((k + 4) % 5) 0 ^^^ rl ((cL A).getD ((k + 1) % 5) 0) 1)
def thL (A : La) : La := (List.range 25).map (tA' A)
theorem thL_len (A : La) : (thL A).length = 25 := by simp [thL]
def wx (t : Nat) : Nat := [1, 0, 2, 1, 2, 3, 3, 0, 1, 3, 1, 4, 4, 0, 3, 4, 3, 2, 2, 0, 4, 2, 4, 1, 1].getD t 0
def wy (t : Nat) : Nat := [0, 2, 1, 2, 3, 3, 0, 1, 3, 1, 4, 4, 0, 3, 4, 3, 2, 2, 0, 4, 2, 4, 1, 1, 0].getD t 0
theorem way_ok : ∀ t, t < 24 → wx (t + 1) = wy t ∧ wy (t + 1) = (2 * wx t + 3 * wy t) % 5 ∧ wx t < 5 ∧ wy t < 5 := by decide
def wS (t : Nat) : Nat := 5 * wy t + wx t
def wD (t : Nat) : Nat := 5 * ((2 * wx t + 3 * wy t) % 5) + wy t
theorem way_ok2 : ∀ t, t < 24 → wD t < 25 ∧ wS t < 25 ∧ inv (wD t) = wS t ∧ (offs.getD (wS t) 0).toNat = (t + 1) * (t + 2) / 2 % 64 := by decide
theorem rl_zero (x : BitVec 64) : rl x 0 = x := by
  have e : x >>> 64 = 0 := by
    apply BitVec.eq_of_toNat_eq
    rw [BitVec.toNat_ushiftRight, Nat.shiftRight_eq_div_pow]
    exact Nat.div_eq_of_lt x.isLt
  simp [rl, e]
def bR (A : La) : Nat → La
  | 0 => (List.replicate 25 0).set 0 (rl (A.getD 0 0) 0)
  | t + 1 => (bR A t).set (wD t) (rl (A.getD (wS t) 0) ((t + 1) * (t + 2) / 2 % 64))
theorem bR_len (A : La) : ∀ i, (bR A i).length = 25
  | 0 => rfl
  | i + 1 => by simp [bR, bR_len A i]
theorem bR0 (A : La) : (bR A 0).map AV.u64 = z25.set 0 (.u64 (A.getD 0 0)) := by rw [bR, rl_zero]; rfl
def tin (k : Nat) : Nat := [0, 24, 18, 6, 12, 7, 23, 2, 9, 22, 1, 3, 17, 16, 20, 13, 8, 4, 5, 15, 19, 10, 21, 14, 11].getD k 0
theorem tin_ok : ∀ t, t < 24 → tin (wD t) = t + 1 ∧ ∀ k, k < 25 → tin k = t + 1 → k = wD t := by decide
theorem bR_fill (A : La) : ∀ t, t ≤ 24 → bR A t = (List.range 25).map fun k => if tin k ≤ t then rl (A.getD (inv k) 0) (offs.getD (inv k) 0).toNat else 0
  | 0, _ => rfl
  | t + 1, h => by
    rw [bR, bR_fill A t (by omega)]
    obtain ⟨v1, v2, v3, v4⟩ := way_ok2 t (by omega)
    obtain ⟨d1, d2⟩ := tin_ok t (by omega)
    apply List.ext_getElem
    · simp
    · intro k h1 h2
      have hk : k < 25 := by simpa using h2
      rw [List.getElem_set]
      by_cases e : wD t = k
      · subst e; simp [d1, v3, ← v4]
      · rw [if_neg e]
        have hne : tin k ≠ t + 1 := fun h => e (d2 k hk h).symm
        have : (tin k ≤ t + 1) = (tin k ≤ t) := by apply propext; omega
        simp [this]
theorem bR_all (A : La) : bR A 24 = (List.range 25).map fun k => rl (A.getD (inv k) 0) (offs.getD (inv k) 0).toNat := by
  rw [bR_fill A 24 (by omega)]
  apply List.map_congr_left
  intro k hk
  have h : ∀ k, k < 25 → tin k ≤ 24 := by decide
  rw [if_pos (h k (by simpa using hk))]
theorem bR_bL (A : La) : bR (thL A) 24 = bL A offs := by
  rw [bR_all]
  apply List.map_congr_left
  intro k hk
  have hi : ∀ k, k < 25 → inv k < 25 := by decide
  have hk' := hi k (by simpa using hk)
  rw [tB, thL, mapr_get hk', tA', dL, mapr_get (show inv k % 5 < 5 by omega), thD, show (inv k % 5 + 4) % 5 = (inv k + 4) % 5 by omega, show (inv k % 5 + 1) % 5 = (inv k + 1) % 5 by omega]
def σr1 (A : La) (c : BitVec 64) (i : Nat) : St :=
  ⟨[(1, .u64 c), (2, .ptr 0 0), (4, .ptr 1 0), (5, .ptr 2 0), (16, .i i)], [(0, ⟨A.map .u64, true⟩), (1, ⟨z25, true⟩), (2, ⟨(sF A i).map .u64, true⟩)], 3⟩
def σr2 (A : La) (c : BitVec 64) (i : Nat) : St :=
  ⟨[(1, .u64 c), (2, .ptr 0 0), (4, .ptr 1 0), (5, .ptr 2 0), (29, .i i)], [(0, ⟨(fillL 25 (tA' A) (fun k => A.getD k 0) i).map .u64, true⟩), (1, ⟨z25, true⟩), (2, ⟨(cL A).map .u64, true⟩)], 3⟩
def σr3 (A : La) (c : BitVec 64) (t : Nat) : St :=
  ⟨[(1, .u64 c), (2, .ptr 0 0), (4, .ptr 1 0), (8, .ptr 3 0), (9, .i (wx t : Nat)), (10, .i (wy t : Nat)), (53, .i t)], [(0, ⟨(thL A).map .u64, true⟩), (1, ⟨z25, true⟩), (3, ⟨(bR (thL A) t).map .u64, true⟩)], 4⟩
def σr4 (A : La) (c : BitVec 64) (i : Nat) : St :=
  ⟨[(1, .u64 c), (2, .ptr 0 0), (4, .ptr 1 0), (8, .ptr 3 0), (85, .i i)], [(0, ⟨(fillL 25 (rowL (bL A offs)) (fun k => (thL A).getD k 0) i).map .u64, true⟩), (1, ⟨z25, true⟩), (3, ⟨(bL A offs).map .u64, true⟩)], 4⟩
theorem fillTh (A : La) : fillL 25 (tA' A) (fun k => A.getD k 0) 25 = thL A := fillL_all _ _ _
set_option maxHeartbeats 4000000 in
theorem round_fun (A : La) (c : BitVec 64) (hA : A.length = 25) : Fun Tryz.prog Gs 275 [Enc.enc (⟨A⟩ : Ar (BitVec 64)), Enc.enc c] (Enc.ret (⟨rndS A c⟩ : Ar (BitVec 64))) := by
  refine Fun_cc [ctTurn] mo Tryz.func275 (by decide) cc275 rs275 Tryz.ntmps275 (by simp) ?_
  have hct := ctTurn_ok CtOK_nil
  refine AW_run hct 1000 ?_
  simp (maxSteps := 10000000) (disch := omega) only [go_sem, c275, reduceIte, seval, -BitVec.isValue, -BitVec.reduceOfNat, -List.reduceReplicate]
  refine AW_loop (σr1 A c) (fun i => i ≤ 25) (fun i => 25 - i) 0 (Nat.zero_le _) (Wk_p [] ?_) fun i hi => ?_
  · simp only [go_sem, σr1, sF0, z25, reduceIte, seval, -BitVec.isValue, -BitVec.reduceOfNat, -List.reduceReplicate]
    try simp
  · refine AW_run hct 1000 ?_
    simp (maxSteps := 10000000) (disch := omega) only [go_sem, σr1, reduceIte, seval, -BitVec.isValue, -BitVec.reduceOfNat, -List.reduceReplicate]
    refine run_br (fun hb => ?_) (fun hb => ?_)
    · have hlt : i < 25 := by have := of_decide_eq_true hb; omega
      have hl := sF_len A i
      simp (maxSteps := 10000000) (disch := omega) only [go_sem, Int.tmod_eq_emod_of_nonneg, reduceIte, seval, -BitVec.isValue, -BitVec.reduceOfNat, -List.reduceReplicate]
      have e1 : ((i : Int) % 5).toNat = i % 5 := by omega
      refine ⟨i + 1, by omega, Wk_p [] ?_, by omega⟩
      simp only [go_sem, e1, reduceIte, seval, -BitVec.isValue, -BitVec.reduceOfNat, -List.reduceReplicate]
      simp [sF]
    · have hge : i = 25 := by have := of_decide_eq_false hb; omega
      subst hge
      simp (maxSteps := 10000000) (disch := omega) only [go_sem, sF_all, reduceIte, seval, -BitVec.isValue, -BitVec.reduceOfNat, -List.reduceReplicate]
      refine AW_loop (σr2 A c) (fun i => i ≤ 25) (fun i => 25 - i) 0 (Nat.zero_le _) (Wk_p [] ?_) fun i hi => ?_
      · simp only [go_sem, σr2, fill0A _ hA, reduceIte, seval, -BitVec.isValue, -BitVec.reduceOfNat, -List.reduceReplicate]
        try simp
      · refine AW_run hct 1000 ?_
        simp (maxSteps := 10000000) (disch := omega) only [go_sem, σr2, reduceIte, seval, -BitVec.isValue, -BitVec.reduceOfNat, -List.reduceReplicate]
        refine run_br (fun hb => ?_) (fun hb => ?_)
        · have hlt : i < 25 := by have := of_decide_eq_true hb; omega
          have hl := fillL_len 25 (tA' A) (fun k => A.getD k 0) i
          have hs := fillL_set (f := tA' A) (g := fun k => A.getD k 0) hlt
          have hg : (fillL 25 (tA' A) (fun k => A.getD k 0) i).getD i 0 = A.getD i 0 := by rw [fillL_get hlt, if_neg (by omega)]
          have hcl := cL_len A
          simp (maxSteps := 10000000) (disch := omega) only [go_sem, ctTurn, Int.tmod_eq_emod_of_nonneg, reduceIte, seval, -BitVec.isValue, -BitVec.reduceOfNat, -List.reduceReplicate]
          have e1 : (((i : Int) + 4) % 5).toNat = (i + 4) % 5 := by omega
          have e2 : (((i : Int) + 1) % 5).toNat = (i + 1) % 5 := by omega
          refine ⟨i + 1, by omega, Wk_p [] ?_, by omega⟩
          simp only [go_sem, e1, e2, hg, reduceIte, seval, -BitVec.isValue, -BitVec.reduceOfNat, -List.reduceReplicate]
          rw [← hs]
          simp [tA']
        · have hge : i = 25 := by have := of_decide_eq_false hb; omega
          subst hge
          have htl := thL_len A
          have hz := z25_len
          simp (maxSteps := 10000000) (disch := omega) only [go_sem, fillTh, reduceIte, seval, -BitVec.isValue, -BitVec.reduceOfNat, -List.reduceReplicate]
          refine AW_loop (σr3 A c) (fun i => i ≤ 24) (fun i => 24 - i) 0 (Nat.zero_le _) (Wk_p [] ?_) fun t ht => ?_
          · simp only [go_sem, σr3, bR0, z25, List.set_cons_zero, wx, wy, reduceIte, seval, -BitVec.isValue, -BitVec.reduceOfNat, -List.reduceReplicate]
            try simp
          · refine AW_run hct 1000 ?_
            simp (maxSteps := 10000000) (disch := omega) only [go_sem, σr3, reduceIte, seval, -BitVec.isValue, -BitVec.reduceOfNat, -List.reduceReplicate]
            refine run_br (fun hb => ?_) (fun hb => ?_)
            · have hlt : t < 24 := by have := of_decide_eq_true hb; omega
              obtain ⟨w1, w2, w3, w4⟩ := way_ok t hlt
              obtain ⟨v1, v2, v3, v4⟩ := way_ok2 t hlt
              have hl := bR_len (thL A) t
              have m1 : 0 ≤ ((t : Int) + 1) * ((t : Int) + 2) ∧ ((t : Int) + 1) * ((t : Int) + 2) ≤ 625 := by
                constructor
                · exact Int.mul_nonneg (by omega) (by omega)
                · exact Int.mul_le_mul (c := 25) (d := 25) (by omega) (by omega) (by omega) (by omega)
              simp (maxSteps := 10000000) (disch := omega) only [go_sem, ctTurn, Int.tmod_eq_emod_of_nonneg, Int.tdiv_eq_ediv_of_nonneg, reduceIte, seval, -BitVec.isValue, -BitVec.reduceOfNat, -List.reduceReplicate]
              have e1 : (5 * ((wy (t + 1) : Nat) : Int) + (wy t : Int)).toNat = wD t := by rw [w2]; unfold wD; omega
              have e2 : (5 * (wy t : Int) + (wx t : Int)).toNat = wS t := by unfold wS; omega
              have e3 : (((t : Int) + 1) * ((t : Int) + 2) / 2 % 64).toNat = (t + 1) * (t + 2) / 2 % 64 := by
                have : ((t : Int) + 1) * ((t : Int) + 2) = (((t + 1) * (t + 2) : Nat) : Int) := by simp
                rw [this]; omega
              have e4 : ((2 * (wx t : Int) + 3 * (wy t : Int)) % 5) = ((wy (t + 1) : Nat) : Int) := by omega
              refine ⟨t + 1, by omega, Wk_p [] ?_, by omega⟩
              simp only [go_sem, e1, e2, e3, e4, w1, reduceIte, seval, -BitVec.isValue, -BitVec.reduceOfNat, -List.reduceReplicate]
              simp [bR]
            · have hge : t = 24 := by have := of_decide_eq_false hb; omega
              subst hge
              simp (maxSteps := 10000000) (disch := omega) only [go_sem, bR_bL, reduceIte, seval, -BitVec.isValue, -BitVec.reduceOfNat, -List.reduceReplicate]
              refine AW_loop (σr4 A c) (fun i => i ≤ 25) (fun i => 25 - i) 0 (Nat.zero_le _) (Wk_p [] ?_) fun i hi => ?_
              · simp only [go_sem, σr4, fill0A _ htl, reduceIte, seval, -BitVec.isValue, -BitVec.reduceOfNat, -List.reduceReplicate]
                try simp
              · refine AW_run hct 1000 ?_
                simp (maxSteps := 10000000) (disch := omega) only [go_sem, σr4, reduceIte, seval, -BitVec.isValue, -BitVec.reduceOfNat, -List.reduceReplicate]
                refine run_br (fun hb => ?_) (fun hb => ?_)
                · have hlt : i < 25 := by have := of_decide_eq_true hb; omega
                  have hl := fillL_len 25 (rowL (bL A offs)) (fun k => (thL A).getD k 0) i
                  have hs := fillL_set (f := rowL (bL A offs)) (g := fun k => (thL A).getD k 0) hlt
                  have hbl := bL_len A offs
                  simp (maxSteps := 10000000) (disch := omega) only [go_sem, Int.tmod_eq_emod_of_nonneg, Int.tdiv_eq_ediv_of_nonneg, reduceIte, seval, -BitVec.isValue, -BitVec.reduceOfNat, -List.reduceReplicate]
                  have e1 : ((i : Int) / 5 * 5 + ((i : Int) + 1) % 5).toNat = i / 5 * 5 + (i + 1) % 5 := by omega
                  have e2 : ((i : Int) / 5 * 5 + ((i : Int) + 2) % 5).toNat = i / 5 * 5 + (i + 2) % 5 := by omega
                  refine ⟨i + 1, by omega, Wk_p [] ?_, by omega⟩
                  simp only [go_sem, e1, e2, reduceIte, seval, -BitVec.isValue, -BitVec.reduceOfNat, -List.reduceReplicate]
                  rw [← hs]
                  simp [rowL]
                · have hge : i = 25 := by have := of_decide_eq_false hb; omega
                  subst hge
                  have hml := mixS_len A offs
                  have hrl := rndS_len A c
                  have htk : (rndS A c).take 25 = rndS A c := List.take_of_length_le (by omega)
                  have hrs : (mixS A offs).set 0 ((mixS A offs).getD 0 0 ^^^ c) = rndS A c := rfl
                  simp (maxSteps := 10000000) (disch := omega) only [go_sem, fillMix, hrs, htk, List.drop_eq_nil_of_le, List.append_nil, reduceIte, seval, -BitVec.isValue, -BitVec.reduceOfNat, -List.reduceReplicate]
    def ctRound : Nat × (List AV → R) := (275, A2 fun (A : Ar (BitVec 64)) (c : BitVec 64) => (A.l.length = 25, Enc.ret (⟨rndS A.l c⟩ : Ar (BitVec 64))))
theorem ctRound_ok {Ct : List (Nat × (List AV → R))} (h : CtOK Tryz.prog Gs Ct) : CtOK Tryz.prog Gs (ctRound :: Ct) := CtOK_cons (Row2 fun A c h => round_fun A.l c h) h
end Go.Lv
namespace Go.Lv
open Go Go.Proofs
set_option linter.unusedSimpArgs false
set_option maxRecDepth 100000
theorem rconstants_fun : Fun Tryz.prog Gs 274 [] (Enc.ret (⟨kcon⟩ : Ar (BitVec 64))) := by
  refine Fun_cc [] mo Tryz.func274 (by decide) cc274 rs274 Tryz.ntmps274 (by simp) ?_
  refine AW_run CtOK_nil 1000 ?_
  simp (maxSteps := 10000000) (disch := omega) only [go_sem, c274, kcon, reduceIte, seval, -BitVec.isValue, -BitVec.reduceOfNat, -List.reduceReplicate]
def ctRK : Nat × (List AV → R) := (274, A0 (True, Enc.ret (⟨kcon⟩ : Ar (BitVec 64))))
theorem ctRK_ok {Ct : List (Nat × (List AV → R))} (h : CtOK Tryz.prog Gs Ct) : CtOK Tryz.prog Gs (ctRK :: Ct) := CtOK_cons (Row0 fun _ => rconstants_fun) h
def σrpm (A : La) (i : Nat) : St := ⟨[(1, .ptr 0 0), (2, .ptr 1 0), (3, .ptr 2 0), (6, .i i)], [(0, ⟨(permF kcon A i).map .u64, true⟩), (1, ⟨z25, true⟩), (2, ⟨kcon.map .u64, true⟩)], 3⟩
set_option maxHeartbeats 2000000 in
theorem RPermute_fun (A : La) (hA : A.length = 25) : Fun Tryz.prog Gs 254 [Enc.enc (⟨A⟩ : Ar (BitVec 64))] (Enc.ret (⟨perm A⟩ : Ar (BitVec 64))) := by
  refine Fun_cc [ctRK, ctRound] mo Tryz.func254 (by decide) cc254 rs254 Tryz.ntmps254 (by simp) ?_
  have hct := ctRK_ok (ctRound_ok CtOK_nil)
  refine AW_run hct 1000 ?_
  have hkl : List.length kcon = 24 := rfl
  simp (maxSteps := 10000000) (disch := omega) only [go_sem, c254, ctRK, hkl, reduceIte, seval, -BitVec.isValue, -BitVec.reduceOfNat, -List.reduceReplicate]
  refine AW_loop (σrpm A) (fun i => i ≤ 24) (fun i => 24 - i) 0 (Nat.zero_le _) (Wk_p [] ?_) fun i hi => ?_
  · simp only [go_sem, σrpm, z25, permF, reduceIte, seval, -BitVec.isValue, -BitVec.reduceOfNat, -List.reduceReplicate]
    try simp [kcon]
  · refine AW_run hct 1000 ?_
    have hl := permF_len kcon hA i
    have htk : (permF kcon A i).take 25 = permF kcon A i := List.take_of_length_le (by omega)
    simp (maxSteps := 10000000) (disch := omega) only [go_sem, σrpm, reduceIte, seval, -BitVec.isValue, -BitVec.reduceOfNat, -List.reduceReplicate]
    refine run_br (fun hb => ?_) (fun hb => ?_)
    · have hlt : i < 24 := by have := of_decide_eq_true hb; omega
      have hml := rndS_len (permF kcon A i) (kcon.getD i 0)
      simp (maxSteps := 10000000) (disch := omega) only [go_sem, ctRK, ctRound, htk, List.drop_eq_nil_of_le, List.append_nil, reduceIte, seval, -BitVec.isValue, -BitVec.reduceOfNat, -List.reduceReplicate]
      refine ⟨i + 1, by omega, Wk_p [] ?_, by omega⟩
      simp only [go_sem, permF, reduceIte, seval, -BitVec.isValue, -BitVec.reduceOfNat, -List.reduceReplicate]
      simp
    · have hge : i = 24 := by have := of_decide_eq_false hb; omega
      subst hge
      have hz := z25_len
      simp (maxSteps := 10000000) (disch := omega) only [go_sem, htk, List.drop_eq_nil_of_le, List.append_nil, reduceIte, seval, -BitVec.isValue, -BitVec.reduceOfNat, -List.reduceReplicate]
      simp [perm]
end Go.Lv
namespace Go.Lv
open Go Go.Proofs
set_option linter.unusedSimpArgs false
set_option maxRecDepth 100000
def puts (s : La) (a : Nat) : List (BitVec 8) → La
  | [] => s
  | x :: l => puts (putS s a x) (a + 1) l
theorem puts_app : ∀ (l m : List (BitVec 8)) (s : La) (a : Nat), puts s a (l ++ m) = puts (puts s a l) (a + l.length) m
  | [], m, s, a => rfl
  | x :: l, m, s, a => by
    rw [List.cons_append, puts, puts, puts_app l m, List.length_cons]
    congr 1; omega
theorem absorb_lt {r : Nat} : ∀ (l : List (BitVec 8)) (s : La) (a : Nat), a + l.length < r → absorb r (s, a) l = (puts s a l, a + l.length)
  | [], s, a, _ => rfl
  | x :: l, s, a, h => by
    simp only [List.length_cons] at h
    show absorb r (stepA r (s, a) x) l = _
    rw [stepA, if_neg (show ¬ a + 1 = r by omega), absorb_lt l _ _ (by omega), puts, List.length_cons]
    congr 1; omega
theorem absorb_eq {r : Nat} (l : List (BitVec 8)) (s : La) (a : Nat) (hl : l ≠ []) (h : a + l.length = r) : absorb r (s, a) l = (perm (puts s a l), 0) := by
  rw [← List.dropLast_concat_getLast hl, absorb_app, absorb_lt l.dropLast s a (by rw [List.length_dropLast]; have := List.length_pos_iff.2 hl; omega), puts_app]
  have hlen : a + l.dropLast.length + 1 = r := by simp only [List.length_dropLast]; have := List.length_pos_iff.2 hl; omega
  show stepA r _ _ = _
  rw [stepA, if_pos hlen]
  rfl
theorem absorb_pos {r : Nat} : ∀ (l : List (BitVec 8)) (s : La) (a : Nat), a < r → (absorb r (s, a) l).2 = (a + l.length) % r
  | [], s, a, h => by simp [absorb, Nat.mod_eq_of_lt h]
  | x :: l, s, a, h => by
    show (absorb r (stepA r (s, a) x) l).2 = _
    rw [stepA]
    split
    · rename_i e
      simp only at e
      rw [absorb_pos l _ _ (by omega), List.length_cons, show a + (l.length + 1) = r + (0 + l.length) by omega, Nat.add_mod_left]
    · rename_i e
      simp only at e
      rw [absorb_pos l _ _ (by omega), List.length_cons]
      congr 1; omega
theorem putS_xor (s : La) (a : Nat) (x y : BitVec 8) : putS (putS s a x) a y = putS s a (x ^^^ y) := by
  simp only [putS, List.set_set]
  by_cases h : a / 8 < s.length
  · congr 1
    simp only [List.getD_eq_getElem?_getD, List.getElem?_set, h, if_true, Option.getD_some]
    rw [BitVec.setWidth_xor, BitVec.shiftLeft_xor_distrib, BitVec.xor_assoc]
  · rw [List.set_eq_of_length_le (by omega), List.set_eq_of_length_le (by omega)]
theorem putS_zero (s : La) (a : Nat) : putS s a 0 = s := by
  simp only [putS]
  apply List.ext_getElem
  · simp
  · intro i h1 h2
    rw [List.getElem_set]
    split
    · rename_i e; subst e; simp [List.getD_eq_getElem?_getD, h2]
    · rfl
theorem puts_zero : ∀ (k : Nat) (s : La) (a : Nat), puts s a (List.replicate k 0) = s
  | 0, s, a => rfl
  | k + 1, s, a => by rw [List.replicate_succ, puts, putS_zero, puts_zero k]
def padP (text : List (BitVec 8)) (e : BitVec 8) (k : Nat) : List (BitVec 8) := text ++ [e] ++ List.replicate k 0
theorem padP_len (text : List (BitVec 8)) (e : BitVec 8) (k : Nat) : (padP text e k).length = text.length + 1 + k := by simp [padP]; omega
def padX (text : List (BitVec 8)) (e : BitVec 8) (k : Nat) : List (BitVec 8) := (padP text e k).set (text.length + k) ((padP text e k).getD (text.length + k) 0 ^^^ 128)
theorem padX_len (text : List (BitVec 8)) (e : BitVec 8) (k : Nat) : (padX text e k).length = text.length + 1 + k := by simp [padX, padP_len]
theorem padX_zero (text : List (BitVec 8)) (e : BitVec 8) : padX text e 0 = text ++ [e ^^^ 128] := by
  simp [padX, padP, List.getD_eq_getElem?_getD]
theorem padX_succ (text : List (BitVec 8)) (e : BitVec 8) (k : Nat) : padX text e (k + 1) = text ++ (e :: (List.replicate k 0 ++ [128])) := by
  have h : padP text e (k + 1) = (text ++ e :: List.replicate k 0) ++ [0] := by
    simp [padP, List.replicate_succ']
  have hl : (text ++ e :: List.replicate k (0 : BitVec 8)).length = text.length + (k + 1) := by simp
  rw [padX, h, ← hl, List.set_append_right _ _ (Nat.le_refl _)]
  simp [List.getD_eq_getElem?_getD]
theorem pad_law {r : Nat} (text : List (BitVec 8)) (e : BitVec 8) (k : Nat) (hr : 0 < r) (hk : k < r) (hm : (text.length + 1 + k) % r = 0) : absorb r (z0, 0) (padX text e k) = (takes0 r e text, 0) := by
  have hp := absorb_pos (r := r) text z0 0 hr
  rw [Nat.zero_add] at hp
  have hlt : (absorb r (z0, 0) text).2 < r := by rw [hp]; exact Nat.mod_lt _ hr
  have hsum : (absorb r (z0, 0) text).2 + 1 + k = r := by
    rw [hp]
    have h1 := Nat.div_add_mod text.length r
    have h2 : (text.length % r + 1 + k) % r = 0 := by
      rw [← h1, show r * (text.length / r) + text.length % r + 1 + k = (text.length % r + 1 + k) + r * (text.length / r) by omega, Nat.add_mul_mod_self_left] at hm
      exact hm
    have h3 := Nat.mod_lt text.length hr
    obtain ⟨q, hq⟩ := Nat.dvd_of_mod_eq_zero h2
    have : q = 1 := by
      rcases Nat.lt_or_ge q 2 with h | h
      · rcases (by omega : q = 0 ∨ q = 1) with rfl | rfl
        · omega
        · rfl
      · have := Nat.mul_le_mul (Nat.le_refl r) h
        omega
    subst this; omega
  rw [takes0, takesS]
  rcases hst : absorb r (z0, 0) text with ⟨s1, a1⟩
  rw [hst] at hsum hlt
  simp only at hsum hlt ⊢
  cases k with
  | zero =>
    rw [padX_zero, absorb_app, hst, absorb_eq _ _ _ (by simp) (by simp; omega)]
    simp only [puts]
    rw [show r - 1 = a1 by omega, putS_xor]
  | succ k =>
    rw [padX_succ, absorb_app, hst, absorb_eq _ _ _ (by simp) (by simp; omega)]
    simp only [puts]
    rw [puts_app, puts_zero]
    simp only [puts, List.length_replicate]
    rw [show a1 + 1 + k = r - 1 by omega]
def putsAt (s : La) (P : List (BitVec 8)) (at' : Nat) : Nat → La
  | 0 => s
  | i + 1 => putS (putsAt s P at' i) i (P.getD (at' + i) 0)
theorem putsAt_len (s : La) (P : List (BitVec 8)) (at' : Nat) : ∀ i, (putsAt s P at' i).length = s.length
  | 0 => rfl
  | i + 1 => by rw [putsAt, putS_len, putsAt_len s P at' i]
theorem putsAt_eq (s : La) (P : List (BitVec 8)) (at' : Nat) : ∀ i, at' + i ≤ P.length → putsAt s P at' i = puts s 0 ((P.drop at').take i)
  | 0, _ => by simp [putsAt, puts]
  | i + 1, h => by
    rw [putsAt, putsAt_eq s P at' i (by omega), List.take_succ_eq_append_getElem (by simp; omega), puts_app]
    simp only [puts, List.length_take, List.length_drop, List.getElem_drop, Nat.zero_add]
    rw [show min i (P.length - at') = i by omega]
    simp [List.getD_eq_getElem?_getD, show at' + i < P.length by omega]
def absR (P : List (BitVec 8)) (r : Nat) : Nat → La
  | 0 => z0
  | q + 1 => perm (putsAt (absR P r q) P (q * r) r)
theorem absR_len (P : List (BitVec 8)) (r : Nat) : ∀ q, (absR P r q).length = 25
  | 0 => rfl
  | q + 1 => perm_len (by rw [putsAt_len]; exact absR_len P r q)
theorem absR_eq (P : List (BitVec 8)) {r : Nat} (hr : 0 < r) : ∀ q, q * r ≤ P.length → absorb r (z0, 0) (P.take (q * r)) = (absR P r q, 0)
  | 0, _ => by simp [absR, absorb]
  | q + 1, h => by
    have h1 : q * r + r ≤ P.length := by rw [Nat.succ_mul] at h; exact h
    rw [Nat.succ_mul, List.take_add, absorb_app, absR_eq P hr q (by omega)]
    rw [absorb_eq _ _ _ (by intro e; have := congrArg List.length e; simp at this; omega) (by simp; omega), absR, putsAt_eq _ _ _ _ h1]
theorem gS_blk {r : Nat} {st : La × Nat} {A : La} (hp : prep r st = (A, 0)) : ∀ i, i + 1 ≤ r → gS r st (i + 1) = (A, i + 1) ∧ gBy r st i = byteG (A, i)
  | 0, _ => ⟨by show ((prep r st).1, (prep r st).2 + 1) = _; rw [hp], by show byteG (prep r st) = _; rw [hp]⟩
  | i + 1, h => by
    have ih := (gS_blk hp i (by omega)).1
    have e : prep r (gS r st (i + 1)) = (A, i + 1) := by rw [ih, prep, if_neg (show ¬ i + 1 = r by omega)]
    exact ⟨by show ((prep r (gS r st (i + 1))).1, (prep r (gS r st (i + 1))).2 + 1) = _; rw [e], by show byteG (prep r (gS r st (i + 1))) = _; rw [e]⟩
def bytesL (A : La) (n : Nat) : List (BitVec 8) := (List.range n).map fun i => byteG (A, i)
theorem gO_blk {r : Nat} {st : La × Nat} {A : La} (hp : prep r st = (A, 0)) {t : Nat} (ht : t ≤ r) : gO r st t = bytesL A t := by
  apply List.map_congr_left
  intro i hi
  exact (gS_blk hp i (by have := List.mem_range.1 hi; omega)).2
theorem gS_full {r : Nat} (hr : 0 < r) (S : La) : ∀ q, prep r (gS r (S, 0) (q * r)) = (if q = 0 then S else perm (gS r (S, 0) (q * r)).1, 0)
  | 0 => by
    simp only [Nat.zero_mul, gS, prep]
    rw [if_neg (show ¬ 0 = r by omega)]; rfl
  | q + 1 => by
    have ih := gS_full hr S q
    obtain ⟨r, rfl⟩ := Nat.exists_eq_succ_of_ne_zero (by omega : r ≠ 0)
    have h := (gS_blk ih r (Nat.le_refl _)).1
    rw [Nat.succ_mul, ← gS_add]
    rw [h, prep, if_pos rfl]
    rfl
end Go.Lv
namespace Go.Lv
open Go Go.Proofs
set_option linter.unusedSimpArgs false
set_option maxRecDepth 100000
theorem bytesL_len (A : La) (n : Nat) : (bytesL A n).length = n := by simp [bytesL]
theorem bytesL_succ (A : La) (n : Nat) : bytesL A (n + 1) = bytesL A n ++ [byteG (A, n)] := by simp [bytesL, List.range_succ]
def σby (A : La) (n : Int) (i : Nat) : St := ⟨[(2, .ptr 0 0), (5, .sl 1 0 i 1), (8, .i n), (9, .i i)], [(0, ⟨A.map .u64, true⟩), (1, ⟨(bytesL A i).map .u8, true⟩)], 2⟩
theorem bytes_fun (A : La) (n : Nat) (hA : A.length = 25) (hn : n ≤ 200) : Fun Tryz.prog Gs 255 [Enc.enc (⟨A⟩ : Ar (BitVec 64)), Enc.enc (n : Int)] (Enc.ret (bytesL A n)) := by
  refine Fun_cc [] mo Tryz.func255 (by decide) cc255 rs255 Tryz.ntmps255 (by simp) ?_
  refine AW_run CtOK_nil 1000 ?_
  simp (maxSteps := 10000000) (disch := omega) only [go_sem, c255, reduceIte, seval, -BitVec.isValue, -BitVec.reduceOfNat, -List.reduceReplicate]
  refine AW_loop (σby A n) (fun i => i ≤ n) (fun i => n - i) 0 (Nat.zero_le _) (Wk_p [] ?_) fun i hi => ?_
  · simp only [go_sem, σby, bytesL, List.range_zero, List.map_nil, reduceIte, seval, -BitVec.isValue, -BitVec.reduceOfNat, -List.reduceReplicate]
    try simp
  · refine AW_run CtOK_nil 1000 ?_
    have hl := bytesL_len A i
    simp (maxSteps := 10000000) (disch := omega) only [go_sem, σby, reduceIte, seval, -BitVec.isValue, -BitVec.reduceOfNat, -List.reduceReplicate]
    refine run_br (fun hb => ?_) (fun hb => ?_)
    · have hlt : i < n := by have := of_decide_eq_true hb; omega
      have e0 : (bytesL A i).take i = bytesL A i := List.take_of_length_le (by omega)
      simp (maxSteps := 10000000) (disch := omega) only [go_sem, Int.tmod_eq_emod_of_nonneg, Int.tdiv_eq_ediv_of_nonneg, e0, List.replicate_succ, List.replicate_zero, List.drop_succ_cons, List.drop_zero, reduceIte, seval, -BitVec.isValue, -BitVec.reduceOfNat, -List.reduceReplicate]
      have e1 : ((i : Int) / 8).toNat = i / 8 := by omega
      have e2 : (BitVec.ofInt 64 (8 * ((i : Int) % 8))).toNat = 8 * (i % 8) := by rw [BitVec.toNat_ofInt]; omega
      have hs := bytesL_succ A i
      refine ⟨i + 1, by omega, Wk_p [(0, 0), (1, 3)] ?_, by omega⟩
      simp only [go_sem, e1, e2, hs, byteG, reduceIte, seval, -BitVec.isValue, -BitVec.reduceOfNat, -List.reduceReplicate]
      simp
    · have hge : i = n := by have := of_decide_eq_false hb; omega
      subst hge
      have e0 : (bytesL A i).take i = bytesL A i := List.take_of_length_le (by omega)
      simp (maxSteps := 10000000) (disch := omega) only [go_sem, e0, reduceIte, seval, -BitVec.isValue, -BitVec.reduceOfNat, -List.reduceReplicate]
      simp [hl]
def ctBytes : Nat × (List AV → R) := (255, A2 fun (A : Ar (BitVec 64)) (n : Int) => (A.l.length = 25 ∧ 0 ≤ n ∧ n ≤ 200, Enc.ret (bytesL A.l n.toNat)))
theorem ctBytes_ok {Ct : List (Nat × (List AV → R))} (h : CtOK Tryz.prog Gs Ct) : CtOK Tryz.prog Gs (ctBytes :: Ct) := CtOK_cons (Row2 fun A n h => by
  obtain ⟨h1, h2, h3⟩ := h
  obtain ⟨n, rfl⟩ := Int.eq_ofNat_of_zero_le h2
  exact bytes_fun A.l n h1 (by omega)) h
def ctRPerm : Nat × (List AV → R) := (254, A1 fun A : Ar (BitVec 64) => (A.l.length = 25, Enc.ret (⟨perm A.l⟩ : Ar (BitVec 64))))
theorem ctRPerm_ok {Ct : List (Nat × (List AV → R))} (h : CtOK Tryz.prog Gs Ct) : CtOK Tryz.prog Gs (ctRPerm :: Ct) := CtOK_cons (Row1 fun A h => RPermute_fun A.l h) h
end Go.Lv
namespace Go.Lv
open Go Go.Proofs
set_option linter.unusedSimpArgs false
set_option maxRecDepth 100000
def A4 {α β γ δ : Type} [Enc α] [Enc β] [Enc γ] [Enc δ] (f : α → β → γ → δ → R) : List AV → R
  | [a, b, c, d] => (Enc.ok α a ∧ Enc.ok β b ∧ Enc.ok γ c ∧ Enc.ok δ d ∧ (f (Enc.dec a) (Enc.dec b) (Enc.dec c) (Enc.dec d)).1, (f (Enc.dec a) (Enc.dec b) (Enc.dec c) (Enc.dec d)).2)
  | _ => (False, .junk)
theorem Row4 {P : Program} {Gl : List (Nat × List AV)} {n : Nat} {α β γ δ : Type} [Enc α] [Enc β] [Enc γ] [Enc δ] {f : α → β → γ → δ → R} (h : ∀ x y z u, (f x y z u).1 → Fun P Gl n [Enc.enc x, Enc.enc y, Enc.enc z, Enc.enc u] (f x y z u).2) : Row P Gl n (A4 f) := by
  intro l ha
  unfold A4 at ha ⊢
  split at ha
  · obtain ⟨h1, h2, h4, h5, h3⟩ := ha
    have := h _ _ _ _ h3
    rw [← Enc.sound _ h1, ← Enc.sound _ h2, ← Enc.sound _ h4, ← Enc.sound _ h5] at this
    exact this
  · exact ha.elim
attribute [go_sem] A4
def σs1 (r : Nat) (e : BitVec 8) (text : List (BitVec 8)) (n : Int) (k : Nat) : St :=
  ⟨[(0, .i r), (3, .i n), (9, .sl 0 0 (padP text e k).length 1)], [(0, ⟨(padP text e k).map .u8, true⟩)], 1⟩
def σs2 (r : Nat) (P : List (BitVec 8)) (n : Int) (q : Nat) : St :=
  ⟨[(0, .i r), (3, .i n), (9, .sl 0 0 P.length 1), (10, .ptr 1 0), (11, .i (q * r : Nat))], [(0, ⟨P.map .u8, true⟩), (1, ⟨(absR P r q).map .u64, true⟩)], 2⟩
def σs3 (r : Nat) (P : List (BitVec 8)) (n : Int) (q i : Nat) : St :=
  ⟨[(0, .i r), (3, .i n), (9, .sl 0 0 P.length 1), (10, .ptr 1 0), (11, .i (q * r : Nat)), (42, .i r), (43, .i i)], [(0, ⟨P.map .u8, true⟩), (1, ⟨(putsAt (absR P r q) P (q * r) i).map .u64, true⟩)], 2⟩
def σs4 (r : Nat) (S : La) (n : Int) (m : Nat) : St :=
  ⟨[(0, .i r), (3, .i n), (10, .ptr 1 0), (13, .sl 2 0 m 1)], [(1, ⟨(gS r (S, 0) m).1.map .u64, true⟩), (2, ⟨(gO r (S, 0) m).map .u8, true⟩)], 3⟩
theorem pad_ex (r L : Nat) (hr : 0 < r) : ∃ K, K < r ∧ (L + 1 + K) % r = 0 := by
  refine ⟨(r - (L + 1) % r) % r, Nat.mod_lt _ hr, ?_⟩
  have h1 := Nat.mod_lt (L + 1) hr
  rw [Nat.add_mod_mod, Nat.add_mod]
  rcases Nat.eq_zero_or_pos ((L + 1) % r) with h | h
  · rw [h]; simp
  · have h2 := Nat.div_add_mod (L + 1) r
    rw [← Nat.add_mod, ← h2]
    rw [show r * ((L + 1) / r) + (L + 1) % r + (r - (r * ((L + 1) / r) + (L + 1) % r) % r) = r * ((L + 1) / r) + r by rw [h2]; omega]
    rw [← Nat.mul_succ, Nat.mul_mod_right]
theorem pad_uniq {r L k K : Nat} (h1 : (L + k) % r = 0) (h2 : (L + K) % r = 0) (hk : k ≤ K) (hK : K < r) : k = K := by
  have e : (K - k) % r = 0 := by
    obtain ⟨a, ha⟩ := Nat.dvd_of_mod_eq_zero h1
    obtain ⟨b, hb⟩ := Nat.dvd_of_mod_eq_zero h2
    have : K - k = r * b - r * a := by omega
    rw [this, ← Nat.mul_sub]; exact Nat.mul_mod_right _ _
  rw [Nat.mod_eq_of_lt (by omega)] at e
  omega
theorem blk_step {r : Nat} (hr : 0 < r) (S : La) (q t : Nat) (h1 : 1 ≤ t) (h2 : t ≤ r) : gO r (S, 0) (q * r + t) = gO r (S, 0) (q * r) ++ bytesL (if q = 0 then S else perm (gS r (S, 0) (q * r)).1) t ∧ (gS r (S, 0) (q * r + t)).1 = if q = 0 then S else perm (gS r (S, 0) (q * r)).1 := by
  have hp := gS_full hr S q
  refine ⟨by rw [gO_add, gO_blk hp h2], ?_⟩
  obtain ⟨t, rfl⟩ := Nat.exists_eq_succ_of_ne_zero (by omega : t ≠ 0)
  rw [← gS_add, (gS_blk hp t h2).1]
set_option maxHeartbeats 16000000 in
theorem Sponge_fun (r : Nat) (e : BitVec 8) (text : List (BitVec 8)) (n : Nat) (hr0 : 0 < r) (hr : r ≤ 200) (ht : text.length ≤ 1000000000) (hn : n ≤ 1048576) :
    Fun Tryz.prog Gs 229 [Enc.enc (r : Int), Enc.enc e, Enc.enc text, Enc.enc (n : Int)] (Enc.ret (sha3S r e n text)) := by
  obtain ⟨K, hK, hKm⟩ := pad_ex r text.length hr0
  refine Fun_cc [mark 16, mark 17, ctRPerm, ctBytes] mo Tryz.func229 (by decide) cc229 rs229 Tryz.ntmps229 (by simp) ?_
  have hct : CtOK Tryz.prog Gs [mark 16, mark 17, ctRPerm, ctBytes] := mark_ok 16 (mark_ok 17 (ctRPerm_ok (ctBytes_ok CtOK_nil)))
  refine AW_run hct 1000 ?_
  have j1 : ([text, [e]] : List (List (BitVec 8))).flatten = text ++ [e] := by simp
  have hj := Join_funG [text, [e]] (by simp) (by rw [j1, List.length_append, List.length_singleton]; omega)
  rw [j1] at hj
  simp (maxSteps := 10000000) (disch := omega) only [go_sem, c229, List.replicate_succ, List.replicate_zero, List.drop_succ_cons, List.drop_zero, ctRPerm, ctBytes, reduceIte, seval, -BitVec.isValue, -BitVec.reduceOfNat, -List.reduceReplicate]
  refine AW_callG [] [(0, 2)] 3 [] false (by simp only [go_sem, reduceIte, seval, -BitVec.isValue, -BitVec.reduceOfNat, -List.reduceReplicate]) (by simp only [go_sem, reduceIte, seval, -BitVec.isValue, -BitVec.reduceOfNat, -List.reduceReplicate]) hj (by rfl) (.inr rfl) (by simp only [go_sem, reduceIte, seval, -BitVec.isValue, -BitVec.reduceOfNat, -List.reduceReplicate]) (by rfl) (by simp only [go_sem, List.take_succ_cons, List.take_zero, List.length_cons, List.length_nil, reduceIte, seval, -BitVec.isValue, -BitVec.reduceOfNat, -List.reduceReplicate]; try simp) (by simp only [go_sem, reduceIte, seval, -BitVec.isValue, -BitVec.reduceOfNat, -List.reduceReplicate]) (by simp only [go_sem, reduceIte, seval, -BitVec.isValue, -BitVec.reduceOfNat, -List.reduceReplicate]) (by simp only [go_sem, reduceIte, seval, -BitVec.isValue, -BitVec.reduceOfNat, -List.reduceReplicate]) ?_
  refine AW_ct [mark 16, mark 17, ctRPerm, ctBytes] (AW_run hct 1000 ?_)
  simp (maxSteps := 10000000) (disch := omega) only [go_sem, ctRPerm, ctBytes, reduceIte, seval, -BitVec.isValue, -BitVec.reduceOfNat, -List.reduceReplicate]
  refine AW_loop (σs1 r e text n) (fun k => k ≤ K) (fun k => K - k) 0 (Nat.zero_le _) (Wk_p [(0, 2)] ?_) fun k hk => ?_
  · simp only [go_sem, σs1, padP, List.replicate_zero, List.append_nil, reduceIte, seval, -BitVec.isValue, -BitVec.reduceOfNat, -List.reduceReplicate]
    try simp
  · refine AW_run hct 1000 ?_
    have hpl := padP_len text e k
    simp (maxSteps := 10000000) (disch := omega) only [go_sem, σs1, Int.tmod_eq_emod_of_nonneg, ctRPerm, ctBytes, reduceIte, seval, -BitVec.isValue, -BitVec.reduceOfNat, -List.reduceReplicate]
    have em : ((padP text e k).length : Int) % (r : Int) = ((text.length + 1 + k) % r : Nat) := by rw [hpl]; simp
    refine run_br (fun hb => ?_) (fun hb => ?_)
    · have hne : (text.length + 1 + k) % r ≠ 0 := by
        rw [em] at hb
        intro h0; rw [h0] at hb; simp at hb
      have hkK : k < K := by
        rcases Nat.lt_or_ge k K with h | h
        · exact h
        · have : k = K := by omega
          subst this; exact absurd hKm hne
      simp (maxSteps := 10000000) (disch := omega) only [go_sem, List.replicate_succ, List.replicate_zero, List.drop_succ_cons, List.drop_zero, ctRPerm, ctBytes, reduceIte, seval, -BitVec.isValue, -BitVec.reduceOfNat, -List.reduceReplicate]
      have hps : padP text e (k + 1) = padP text e k ++ [0] := by simp [padP, List.replicate_succ']
      have e0 : (padP text e k).take (padP text e k).length = padP text e k := List.take_length
      refine ⟨k + 1, by omega, Wk_p [(0, 2)] ?_, by omega⟩
      simp only [go_sem, hps, e0, List.length_append, List.length_cons, List.length_nil, reduceIte, seval, -BitVec.isValue, -BitVec.reduceOfNat, -List.reduceReplicate]
      try simp
    · have h0 : (text.length + 1 + k) % r = 0 := by
        rw [em] at hb
        have : ¬ (((text.length + 1 + k) % r : Nat) : Int) ≠ 0 := by simpa using hb
        omega
      have hkK : k = K := pad_uniq (L := text.length + 1) h0 hKm hk hK
      subst hkK
      simp (maxSteps := 10000000) (disch := omega) only [go_sem, ctRPerm, ctBytes, reduceIte, seval, -BitVec.isValue, -BitVec.reduceOfNat, -List.reduceReplicate]
      have ei : (((padP text e k).length : Int) - 1).toNat = text.length + k := by omega
      have hlaw := pad_law text e k hr0 hK h0
      have hX : (padP text e k).set (text.length + k) ((padP text e k).getD (text.length + k) 0 ^^^ 128) = padX text e k := rfl
      have hXl := padX_len text e k
      obtain ⟨mq, hmq⟩ := Nat.dvd_of_mod_eq_zero h0
      rw [Nat.mul_comm] at hmq
      have hpl2 : (padP text e k).length = (padX text e k).length := by rw [hpl, hXl]
      generalize padX text e k = P at *
      have hPl : P.length = mq * r := by omega
      have ei2 : ((P.length : Int) - 1).toNat = text.length + k := by omega
      refine AW_loop (σs2 r P n) (fun q => q ≤ mq) (fun q => mq - q) 0 (Nat.zero_le _) (Wk_p [] ?_) fun q hq => ?_
      · simp only [go_sem, σs2, ei, ei2, hX, hpl2, absR, z0, Nat.zero_mul, reduceIte, seval, -BitVec.isValue, -BitVec.reduceOfNat, -List.reduceReplicate]
        try simp [List.replicate]
      · refine AW_run hct 1000 ?_
        have hal := absR_len P r q
        simp (maxSteps := 10000000) (disch := omega) only [go_sem, σs2, ctRPerm, ctBytes, reduceIte, seval, -BitVec.isValue, -BitVec.reduceOfNat, -List.reduceReplicate]
        refine run_br (fun hb => ?_) (fun hb => ?_)
        · have hlt : q * r < mq * r := by have := of_decide_eq_true hb; omega
          have hq2 : q < mq := Nat.lt_of_mul_lt_mul_right hlt
          have hqr : q * r + r ≤ mq * r := by have := Nat.mul_le_mul_right r (show q + 1 ≤ mq by omega); rwa [Nat.succ_mul] at this
          simp (maxSteps := 10000000) (disch := omega) only [go_sem, ctRPerm, ctBytes, reduceIte, seval, -BitVec.isValue, -BitVec.reduceOfNat, -List.reduceReplicate]
          refine AW_loop (σs3 r P n q) (fun i => i ≤ r) (fun i => r - i) 0 (Nat.zero_le _) (Wk_p [] ?_) fun i hi => ?_
          · simp only [go_sem, σs3, putsAt, reduceIte, seval, -BitVec.isValue, -BitVec.reduceOfNat, -List.reduceReplicate]
            try simp
          · refine AW_run hct 1000 ?_
            have hpt := putsAt_len (absR P r q) P (q * r) i
            rw [hal] at hpt
            simp (maxSteps := 10000000) (disch := omega) only [go_sem, σs3, ctRPerm, ctBytes, reduceIte, seval, -BitVec.isValue, -BitVec.reduceOfNat, -List.reduceReplicate]
            refine run_br (fun hd => ?_) (fun hd => ?_)
            · have hil : i < r := by have := of_decide_eq_true hd; omega
              simp (maxSteps := 10000000) (disch := omega) only [go_sem, Int.tmod_eq_emod_of_nonneg, Int.tdiv_eq_ediv_of_nonneg, ctRPerm, ctBytes, reduceIte, seval, -BitVec.isValue, -BitVec.reduceOfNat, -List.reduceReplicate]
              have e1 : ((i : Int) / 8).toNat = i / 8 := by omega
              have e2 : (BitVec.ofInt 64 (8 * ((i : Int) % 8))).toNat = 8 * (i % 8) := by rw [BitVec.toNat_ofInt]; omega
              have e3 : (((q * r : Nat) : Int) + (i : Int)).toNat = q * r + i := by omega
              refine ⟨i + 1, by omega, Wk_p [] ?_, by omega⟩
              simp only [go_sem, e1, e2, e3, reduceIte, seval, -BitVec.isValue, -BitVec.reduceOfNat, -List.reduceReplicate]
              simp [putsAt, putS]
            · have hie : i = r := by have := of_decide_eq_false hd; omega
              subst hie
              have hpp := perm_len hpt
              have htk : (putsAt (absR P i q) P (q * i) i).take 25 = putsAt (absR P i q) P (q * i) i := List.take_of_length_le (by omega)
              simp (maxSteps := 10000000) (disch := omega) only [go_sem, ctRPerm, ctBytes, htk, List.drop_eq_nil_of_le, List.append_nil, reduceIte, seval, -BitVec.isValue, -BitVec.reduceOfNat, -List.reduceReplicate]
              have e4 : (((q * i : Nat) : Int) + (i : Int)) = (((q + 1) * i : Nat) : Int) := by rw [Nat.succ_mul]; simp
              refine ⟨q + 1, by omega, Wk_p [] ?_, by omega⟩
              simp only [go_sem, e4, absR, reduceIte, seval, -BitVec.isValue, -BitVec.reduceOfNat, -List.reduceReplicate]
              try simp
        · have hqe : q = mq := by
            have h9 : ¬ q * r < mq * r := by have := of_decide_eq_false hb; omega
            rcases Nat.lt_or_ge q mq with h | h
            · exact absurd (Nat.mul_lt_mul_of_pos_right h hr0) h9
            · omega
          subst hqe
          have hS := absR_eq P hr0 q (by omega)
          rw [List.take_of_length_le (by omega), hlaw] at hS
          have hS1 : absR P r q = takes0 r e text := by simpa using (congrArg Prod.fst hS).symm
          rw [hS1] at hal
          simp (maxSteps := 10000000) (disch := omega) only [go_sem, ctRPerm, ctBytes, hS1, reduceIte, seval, -BitVec.isValue, -BitVec.reduceOfNat, -List.reduceReplicate]
          have hfin : sha3S r e n text = gO r (takes0 r e text, 0) n := rfl
          rw [hfin]
          generalize takes0 r e text = S at *
          refine AW_loop (σs4 r S n) (fun m => m ≤ n ∧ (m = n ∨ ∃ q, m = q * r)) (fun m => n - m) 0 ⟨Nat.zero_le _, .inr ⟨0, by omega⟩⟩ (Wk_p [] ?_) fun m hm => ?_
          · simp only [go_sem, σs4, gS, gO, List.range_zero, List.map_nil, reduceIte, seval, -BitVec.isValue, -BitVec.reduceOfNat, -List.reduceReplicate]
            try simp
          · obtain ⟨hm1, hm2⟩ := hm
            obtain ⟨hg, hg'⟩ := gS_ok (r := r) (st := (S, 0)) hr0 ⟨hal, by simp⟩ m
            have hgl := gO_len r (S, 0) m
            have tk : (gO r (S, 0) m).take m = gO r (S, 0) m := List.take_of_length_le (by omega)
            by_cases hmn : m = n
            · refine AW_run hct 1000 ?_
              subst hmn
              simp (maxSteps := 10000000) (disch := omega) only [go_sem, σs4, ctRPerm, ctBytes, tk, reduceIte, seval, -BitVec.isValue, -BitVec.reduceOfNat, -List.reduceReplicate]
              simp [hgl]
            · obtain ⟨q2, hq2⟩ := hm2.resolve_left hmn
              have hlt : (m : Int) < n := by omega
              obtain ⟨A', hA'⟩ : ∃ A', A' = if q2 = 0 then S else perm (gS r (S, 0) m).1 := ⟨_, rfl⟩
              have hA'l : A'.length = 25 := by
                rw [hA']; split
                · exact hal
                · exact perm_len hg
              have htA : A'.take 25 = A' := List.take_of_length_le (by omega)
              have htg : (gS r (S, 0) m).1.take 25 = (gS r (S, 0) m).1 := List.take_of_length_le (by omega)
              have hpg := perm_len hg
              have key : ∀ t, 1 ≤ t → t ≤ r → gO r (S, 0) (m + t) = gO r (S, 0) m ++ bytesL A' t ∧ (gS r (S, 0) (m + t)).1 = A' := by
                intro t h1 h2
                have := blk_step hr0 S q2 t h1 h2
                rw [← hq2, ← hA'] at this
                exact this
              have hbl : ∀ t, (bytesL A' t).length = t := bytesL_len A'
              by_cases hrn : (r : Int) ≤ n - m
              · have hrr : 1 ≤ r := hr0
                have hbr := hbl r
                have hmin : ¬ ((n : Int) - m < r) := by omega
                have hnext : m + r = n ∨ ∃ q, m + r = q * r := .inr ⟨q2 + 1, by rw [Nat.succ_mul, ← hq2]⟩
                by_cases hz : q2 = 0
                · subst hz
                  rw [if_pos rfl] at hA'
                  have hm0 : m = 0 := by omega
                  subst hm0
                  have hk := key r (by omega) (by omega)
                  rw [Nat.zero_add] at hk hnext
                  have hgs0 : (gS r (S, 0) 0).1 = A' := by rw [hA']; rfl
                  have hgo0 : gO r (S, 0) 0 = [] := rfl
                  refine AW_run hct 1000 ?_
                  have hmin0 : ¬ ((n : Int) < r) := by omega
                  simp (maxSteps := 10000000) (disch := omega) only [go_sem, σs4, ctRPerm, ctBytes, tk, hlt, hgs0, htA, hmin, hmin0, Int.sub_zero, List.drop_eq_nil_of_le, List.append_nil, reduceIte, seval, -BitVec.isValue, -BitVec.reduceOfNat, -List.reduceReplicate]
                  refine ⟨r, ⟨by omega, hnext⟩, Wk_p [(1, 1), (2, 3)] ?_, by omega⟩
                  simp only [go_sem, hk, hgl, hbr, hgo0, List.nil_append, Nat.zero_add, reduceIte, seval, -BitVec.isValue, -BitVec.reduceOfNat, -List.reduceReplicate]
                  try simp [hbr]
                · rw [if_neg hz] at hA'
                  have hk := key r (by omega) (by omega)
                  have hmpos : 0 < (m : Int) := by have := Nat.mul_pos (Nat.pos_of_ne_zero hz) hr0; omega
                  refine AW_run hct 1000 ?_
                  simp (maxSteps := 10000000) (disch := omega) only [go_sem, σs4, ctRPerm, ctBytes, tk, hlt, hmpos, htg, ← hA', htA, hmin, List.drop_eq_nil_of_le, List.append_nil, reduceIte, seval, -BitVec.isValue, -BitVec.reduceOfNat, -List.reduceReplicate]
                  refine ⟨m + r, ⟨by omega, hnext⟩, Wk_p [(1, 1), (2, 3)] ?_, by omega⟩
                  simp only [go_sem, hk, hgl, hbr, reduceIte, seval, -BitVec.isValue, -BitVec.reduceOfNat, -List.reduceReplicate]
                  try simp [hbr]
              · obtain ⟨t, ht'⟩ : ∃ t, t = n - m := ⟨_, rfl⟩
                have hbr := hbl t
                have hmin : (n : Int) - m < r := by omega
                have het : ((n : Int) - m) = (t : Nat) := by omega
                have htr : (t : Int) < r := by omega
                have hnext : m + t = n ∨ ∃ q, m + t = q * r := .inl (by omega)
                by_cases hz : q2 = 0
                · subst hz
                  rw [if_pos rfl] at hA'
                  have hm0 : m = 0 := by omega
                  subst hm0
                  have hk := key t (by omega) (by omega)
                  rw [Nat.zero_add] at hk hnext
                  have hgs0 : (gS r (S, 0) 0).1 = A' := by rw [hA']; rfl
                  have hgo0 : gO r (S, 0) 0 = [] := rfl
                  refine AW_run hct 1000 ?_
                  have het0 : ((n : Int) - 0) = (t : Nat) := by omega
                  simp (maxSteps := 10000000) (disch := omega) only [go_sem, σs4, ctRPerm, ctBytes, tk, hlt, hgs0, htA, het, het0, htr, List.drop_eq_nil_of_le, List.append_nil, reduceIte, seval, -BitVec.isValue, -BitVec.reduceOfNat, -List.reduceReplicate]
                  refine ⟨t, ⟨by omega, hnext⟩, Wk_p [(1, 1), (2, 3)] ?_, by omega⟩
                  simp only [go_sem, hk, hgl, hbr, hgo0, List.nil_append, Nat.zero_add, reduceIte, seval, -BitVec.isValue, -BitVec.reduceOfNat, -List.reduceReplicate]
                  try simp [hbr]
                · rw [if_neg hz] at hA'
                  have hk := key t (by omega) (by omega)
                  have hmpos : 0 < (m : Int) := by have := Nat.mul_pos (Nat.pos_of_ne_zero hz) hr0; omega
                  refine AW_run hct 1000 ?_
                  simp (maxSteps := 10000000) (disch := omega) only [go_sem, σs4, ctRPerm, ctBytes, tk, hlt, hmpos, htg, ← hA', htA, het, htr, List.drop_eq_nil_of_le, List.append_nil, reduceIte, seval, -BitVec.isValue, -BitVec.reduceOfNat, -List.reduceReplicate]
                  refine ⟨m + t, ⟨by omega, hnext⟩, Wk_p [(1, 1), (2, 3)] ?_, by omega⟩
                  simp only [go_sem, hk, hgl, hbr, reduceIte, seval, -BitVec.isValue, -BitVec.reduceOfNat, -List.reduceReplicate]
                  try simp [hbr]
end Go.Lv
namespace Go.Lv
open Go Go.Proofs
set_option linter.unusedSimpArgs false
set_option maxRecDepth 100000
def ctSponge : Nat × (List AV → R) := (229, A4 fun (r : Int) (e : BitVec 8) (t : List (BitVec 8)) (n : Int) => (0 < r ∧ r ≤ 200 ∧ t.length ≤ 1000000000 ∧ 0 ≤ n ∧ n ≤ 1048576, Enc.ret (sha3S r.toNat e n.toNat t)))
theorem ctSponge_ok {Ct : List (Nat × (List AV → R))} (h : CtOK Tryz.prog Gs Ct) : CtOK Tryz.prog Gs (ctSponge :: Ct) := CtOK_cons (Row4 fun r e t n h => by
  obtain ⟨h1, h2, h3, h4, h5⟩ := h
  obtain ⟨r, rfl⟩ := Int.eq_ofNat_of_zero_le (show 0 ≤ r by omega)
  obtain ⟨n, rfl⟩ := Int.eq_ofNat_of_zero_le h4
  exact Sponge_fun r e t n (by omega) (by omega) h3 (by omega)) h
theorem RShake_fun (b : Int) (n : Nat) (t : List (BitVec 8)) (h : t.length ≤ 1000000000) (hn : n ≤ 1048576) : Fun Tryz.prog Gs 183 [Enc.enc b, Enc.enc (n : Int), Enc.enc t] (Enc.ret (shakeS b n t)) := by
  refine Fun_cc [ctSponge] mo Tryz.func183 (by decide) cc183 rs183 Tryz.ntmps183 (by simp) ?_
  by_cases hb : b = 128
  · subst hb
    have e : shakeS 128 n t = sha3S 168 31 n t := rfl
    refine AW_run (ctSponge_ok CtOK_nil) 1000 ?_
    simp (maxSteps := 10000000) (disch := omega) only [go_sem, c183, ctSponge, e, reduceIte, seval, -BitVec.isValue, -BitVec.reduceOfNat, -List.reduceReplicate]
  · have e : shakeS b n t = sha3S 136 31 n t := by rw [shakeS, rateS, if_neg hb]
    refine AW_run (ctSponge_ok CtOK_nil) 1000 ?_
    simp (maxSteps := 10000000) (disch := omega) only [go_sem, c183, ctSponge, e, hb, reduceIte, seval, -BitVec.isValue, -BitVec.reduceOfNat, -List.reduceReplicate]
def ctRShake : Nat × (List AV → R) := (183, A3 fun (b n : Int) (t : List (BitVec 8)) => (t.length ≤ 1000000000 ∧ 0 ≤ n ∧ n ≤ 1048576, Enc.ret (shakeS b n.toNat t)))
theorem ctRShake_ok {Ct : List (Nat × (List AV → R))} (h : CtOK Tryz.prog Gs Ct) : CtOK Tryz.prog Gs (ctRShake :: Ct) := CtOK_cons (Row3 fun b n t h => by
  obtain ⟨h1, h2, h3⟩ := h
  obtain ⟨n, rfl⟩ := Int.eq_ofNat_of_zero_le h2
  exact RShake_fun b n t h1 (by omega)) h
end Go.Lv
