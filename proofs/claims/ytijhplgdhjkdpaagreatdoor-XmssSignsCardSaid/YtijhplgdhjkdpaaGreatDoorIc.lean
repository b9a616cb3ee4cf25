/- A part of the proof. -/
import Derived.Test.YtijhplgdhjkdpaaGreatDoorGJ
import Derived.Test.YtijhplgdhjkdpaaGreatDoorGI
import Derived.Test.YtijhplgdhjkdpaaGreatDoorHy
import Derived.Test.YtijhplgdhjkdpaaGreatDoorGK
set_option linter.all false
namespace Go.Lv
open Go Go.Proofs
set_option linter.unusedSimpArgs false
set_option maxRecDepth 100000

/-! ## A signature's leaf -/
def xixE (x : Xms) (sig : By) : Int := if xmsT x.code = some x then (if (sig.length : Int) = xlenS x then (if (1 : BitVec 64) <<< x.h.toNat ≤ numS (sig.take 4) then 70 else 0) else 70) else 60
def xixR (x : Xms) (sig : By) : AV := if xixE x sig = 0 then .tup [.u32 ((numS (sig.take 4)).setWidth 32), .i 0] else .tup [.u32 0, .i (xixE x sig)]
def ctXmayN (x : Xms) : Nat × (List AV → R) := (50, fun a => (a = [Enc.enc x, .ros true 0 []], .i (wmayE x [])))
theorem may_nil (x : Xms) : wmayE x [] = if xmsT x.code = some x then 0 else 60 := by unfold wmayE; split <;> simp
set_option maxHeartbeats 1000000 in
theorem xmayN_fun (x : Xms) : Fun Tryz.prog Gs 50 [Enc.enc x, .ros true 0 []] (.i (wmayE x [])) := by
  rw [may_nil]
  refine Fun_cc [ctXmss 70] mo Tryz.func50 (by decide) cc50 rs50 Tryz.ntmps50 (by simp) ?_
  have hct := ctXmss_ok (CtOK_nil (P := Tryz.prog) (Gl := Gs))
  by_cases h : xmsT x.code = some x
  · rw [if_pos h]
    have hX : xmsR x.code = .tup [.agg [.u32 x.code, .b x.shake, .i x.n, .i x.h, .i x.len], .i 0] := by rw [xmsR, h]; rfl
    refine AW_run hct 1000 ?_
    simp (maxSteps := 10000000) (disch := omega) only [go_sem, c50, ctXmss, hX, eqL, eq1, reduceIte, seval, -BitVec.isValue, -BitVec.reduceOfNat, -List.reduceReplicate]
    refine AW_loop (fun _ : Unit => (⟨[(23, .i 0), (24, .i 0)], [], 1⟩ : St)) (fun _ => True) (fun _ => 0) () trivial (Wk_p [] ?_) fun _ _ => ?_
    · simp only [go_sem, reduceIte, seval, -BitVec.isValue, -BitVec.reduceOfNat, -List.reduceReplicate]
      try simp
    · refine AW_run hct 1000 ?_
      simp (maxSteps := 10000000) (disch := omega) only [go_sem, reduceIte, seval, -BitVec.isValue, -BitVec.reduceOfNat, -List.reduceReplicate]
      try simp
  · rw [if_neg h]
    cases h2 : xmsT x.code with
    | none =>
      have hX : xmsR x.code = .tup [.agg [.u32 0, .b false, .i 0, .i 0, .i 0], .i 60] := by rw [xmsR, h2]; rfl
      refine AW_run hct 1000 ?_
      simp (maxSteps := 10000000) (disch := omega) only [go_sem, c50, ctXmss, hX, reduceIte, seval, -BitVec.isValue, -BitVec.reduceOfNat, -List.reduceReplicate]
      try simp
    | some y =>
      have hX : xmsR x.code = .tup [.agg [.u32 y.code, .b y.shake, .i y.n, .i y.h, .i y.len], .i 0] := by rw [xmsR, h2]; rfl
      have e : ¬ y = x := fun e => h (by rw [h2, e])
      have e2 : (decide (x.code = y.code) && (decide (x.shake = y.shake) && (decide (x.n = y.n) && (decide (x.h = y.h) && decide (x.len = y.len))))) = false := by
        simp only [← Bool.decide_and]; exact decide_eq_false fun ⟨a, b, c, d, f⟩ => e (by cases x; cases y; simp_all)
      refine AW_run hct 1000 ?_
      simp (maxSteps := 10000000) (disch := omega) only [go_sem, c50, ctXmss, hX, eqL, eq1, Bool.and_true, e2, reduceIte, seval, -BitVec.isValue, -BitVec.reduceOfNat, -List.reduceReplicate]
      try simp
theorem ctXmayN_ok {x : Xms} {Ct : List (Nat × (List AV → R))} (h : CtOK Tryz.prog Gs Ct) : CtOK Tryz.prog Gs (ctXmayN x :: Ct) := CtOK_cons (fun a e => by
  have e : a = [Enc.enc x, .ros true 0 []] := e
  subst e; exact xmayN_fun x) h
theorem xlen_ge {x : Xms} (hx : xmsT x.code = some x) : 4 + x.n ≤ xlenS x ∧ xlenS x ≤ 2900 := by
  have := lh_le hx
  have := xms_len hx
  rw [xlenS, if_pos hx]; omega
set_option maxHeartbeats 2000000 in
theorem XIndex_fun (x : Xms) (sig : By) : Fun Tryz.prog Gs 35 [Enc.enc x, Enc.enc sig] (xixR x sig) := by
  have hct := ctXmayN_ok (x := x) (ctXLen_ok (ctBigOf_ok (CtOK_nil (P := Tryz.prog) (Gl := Gs))))
  refine Fun_cc _ mo Tryz.func35 (by decide) cc35 rs35 Tryz.ntmps35 (by simp) (AW_run hct 1000 ?_)
  by_cases h : xmsT x.code = some x
  · have hm : wmayE x [] = 0 := by rw [may_nil, if_pos h]
    have hh := xms_h h
    have hg := xlen_ge h
    have hn := xms_len h
    by_cases hl : (sig.length : Int) = xlenS x
    · have ht : (sig.take 4).length = 4 := by rw [List.length_take]; omega
      obtain ⟨q, hq⟩ : ∃ q, q = sig.take 4 := ⟨_, rfl⟩
      have hml : min 4 sig.length = 4 := by omega
      by_cases g : (1 : BitVec 64) <<< x.h.toNat ≤ numS (sig.take 4)
      · have hE : xixE x sig = 70 := by rw [xixE, if_pos h, if_pos hl, if_pos g]
        rw [xixR, hE, if_neg (by decide)]
        rw [← hq] at g ht
        simp (maxSteps := 10000000) (disch := omega) only [go_sem, c35, ctXmayN, xlA, ctBigOf, xmC, hm, ← hl, ← hq, ht, hml, eq_true g, reduceIte, seval, -BitVec.isValue, -BitVec.reduceOfNat, -List.reduceReplicate]
        try simp
      · have hE : xixE x sig = 0 := by rw [xixE, if_pos h, if_pos hl, if_neg g]
        rw [xixR, if_pos hE]
        rw [← hq] at g ht ⊢
        simp (maxSteps := 10000000) (disch := omega) only [go_sem, c35, ctXmayN, xlA, ctBigOf, xmC, hm, ← hl, ← hq, ht, hml, eq_false g, reduceIte, seval, -BitVec.isValue, -BitVec.reduceOfNat, -List.reduceReplicate]
        try simp
    · have hE : xixE x sig = 70 := by rw [xixE, if_pos h, if_neg hl]
      rw [xixR, hE, if_neg (by decide)]
      simp (maxSteps := 10000000) (disch := omega) only [go_sem, c35, ctXmayN, xlA, ctBigOf, xmC, hm, eq_false hl, reduceIte, seval, -BitVec.isValue, -BitVec.reduceOfNat, -List.reduceReplicate]
      try simp
  · have hm : wmayE x [] = 60 := by rw [may_nil, if_neg h]
    have hE : xixE x sig = 60 := by rw [xixE, if_neg h]
    rw [xixR, hE, if_neg (by decide)]
    simp (maxSteps := 10000000) (disch := omega) only [go_sem, c35, ctXmayN, xlA, ctBigOf, xmC, hm, reduceIte, seval, -BitVec.isValue, -BitVec.reduceOfNat, -List.reduceReplicate]
    try simp
set_option maxHeartbeats 2000000 in
theorem rXIndex_fun (x : Xms) (sig : By) : Fun Tryz.prog Gs 36 [Enc.enc x, Enc.enc sig] (xixR x sig) := by
  have hct := ctRMayXmss_ok (ctRXLen_ok (ctNumber_ok (CtOK_nil (P := Tryz.prog) (Gl := Gs))))
  refine Fun_cc _ mo Tryz.func36 (by decide) cc36 rs36 Tryz.ntmps36 (by simp) (AW_run hct 1000 ?_)
  by_cases h : xmsT x.code = some x
  · have hh := xms_h h
    have hg := xlen_ge h
    have hn := xms_len h
    have hcv : (BitVec.ofInt 64 x.h).toNat = x.h.toNat := by
      rw [show x.h = ((x.h.toNat : Nat) : Int) by omega, BitVec.ofInt_natCast, BitVec.toNat_ofNat]
      omega
    by_cases hl : (sig.length : Int) = xlenS x
    · have ht : (sig.take 4).length = 4 := by rw [List.length_take]; omega
      obtain ⟨q, hq⟩ : ∃ q, q = sig.take 4 := ⟨_, rfl⟩
      have hml : min 4 sig.length = 4 := by omega
      by_cases g : (1 : BitVec 64) <<< x.h.toNat ≤ numS (sig.take 4)
      · have hE : xixE x sig = 70 := by rw [xixE, if_pos h, if_pos hl, if_pos g]
        rw [xixR, hE, if_neg (by decide)]
        rw [← hq] at g ht
        simp (maxSteps := 10000000) (disch := omega) only [go_sem, c36, ctRMayXmss, xlA, ctNumber, xmC, h, decide_true, hcv, ← hl, ← hq, ht, hml, eq_true g, reduceIte, seval, -BitVec.isValue, -BitVec.reduceOfNat, -List.reduceReplicate]
        try simp
      · have hE : xixE x sig = 0 := by rw [xixE, if_pos h, if_pos hl, if_neg g]
        rw [xixR, if_pos hE]
        rw [← hq] at g ht ⊢
        simp (maxSteps := 10000000) (disch := omega) only [go_sem, c36, ctRMayXmss, xlA, ctNumber, xmC, h, decide_true, hcv, ← hl, ← hq, ht, hml, eq_false g, reduceIte, seval, -BitVec.isValue, -BitVec.reduceOfNat, -List.reduceReplicate]
        try simp
    · have hE : xixE x sig = 70 := by rw [xixE, if_pos h, if_neg hl]
      rw [xixR, hE, if_neg (by decide)]
      simp (maxSteps := 10000000) (disch := omega) only [go_sem, c36, ctRMayXmss, xlA, ctNumber, xmC, h, decide_true, eq_false hl, reduceIte, seval, -BitVec.isValue, -BitVec.reduceOfNat, -List.reduceReplicate]
      try simp
  · have hE : xixE x sig = 60 := by rw [xixE, if_neg h]
    rw [xixR, hE, if_neg (by decide)]
    simp (maxSteps := 10000000) (disch := omega) only [go_sem, c36, ctRMayXmss, xlA, ctNumber, xmC, h, decide_false, reduceIte, seval, -BitVec.isValue, -BitVec.reduceOfNat, -List.reduceReplicate]
    try simp
def ixA (n : Nat) : Nat × (List AV → R) := (n, A2 fun (x : Xms) (sig : By) => (True, xixR x sig))
theorem ctXIndex_ok {Ct : List (Nat × (List AV → R))} (h : CtOK Tryz.prog Gs Ct) : CtOK Tryz.prog Gs (ixA 35 :: Ct) := CtOK_cons (Row2 fun x s _ => XIndex_fun x s) h
theorem ctRXIndex_ok {Ct : List (Nat × (List AV → R))} (h : CtOK Tryz.prog Gs Ct) : CtOK Tryz.prog Gs (ixA 36 :: Ct) := CtOK_cons (Row2 fun x s _ => rXIndex_fun x s) h
end Go.Lv
