/- A part of the proof. -/
import Derived.Test.YtijhplgdhjkdpaaGreatDoorId
import Derived.Test.YtijhplgdhjkdpaaGreatDoorGG
import Derived.Test.YtijhplgdhjkdpaaGreatDoorGI
import Derived.Test.YtijhplgdhjkdpaaGreatDoorGK
set_option linter.all false
namespace Go.Lv
open Go Go.Proofs
set_option linter.unusedSimpArgs false
set_option maxRecDepth 100000

/-! ## The root that comes of a signature -/
def sgR (x : Xms) (sig : By) : By := (sig.drop 4).take x.n.toNat
def sgO (x : Xms) (sig : By) : By := (sig.drop (4 + x.n.toNat)).take (x.len.toNat * x.n.toNat)
def sgP (x : Xms) (sig : By) : By := sig.drop (4 + x.n.toNat + x.len.toNat * x.n.toNat)
def sgM (x : Xms) (root msg sig : By) (i : BitVec 32) : By := smS x (sgR x sig) root i msg
def sgE (x : Xms) (pb root msg sig : By) (i : BitVec 32) : By := ends x.len.toNat (onF x pb (sgM x root msg sig i) (sgO x sig) (adO i))
def cameS (x : Xms) (pb root msg sig : By) (i : BitVec 32) : By := climbS x pb i.toNat (sgP x sig) x.h.toNat (ltreeS x pb (sgE x pb root msg sig i) i)
theorem xlen_nat {x : Xms} (hx : xmsT x.code = some x) {sig : By} (hl : (sig.length : Int) = xlenS x) : sig.length = 4 + x.n.toNat + x.len.toNat * x.n.toNat + x.h.toNat * x.n.toNat := by
  have hx32 := xms_len hx
  have hH := xms_h hx
  have hxn : x.n = (x.n.toNat : Int) := by omega
  have hxh : x.h = (x.h.toNat : Int) := by omega
  have hxl : x.len = (x.len.toNat : Int) := by omega
  rw [xlenS, if_pos hx, Int.add_mul] at hl
  have q1 : x.h * x.n = ((x.h.toNat * x.n.toNat : Nat) : Int) := by rw [Int.natCast_mul, ← hxn, ← hxh]
  have q2 : x.len * x.n = ((x.len.toNat * x.n.toNat : Nat) : Int) := by rw [Int.natCast_mul, ← hxn, ← hxl]
  rw [q1, q2] at hl
  omega
theorem sgR_len {x : Xms} (hx : xmsT x.code = some x) {sig : By} (hl : (sig.length : Int) = xlenS x) : (sgR x sig).length = x.n.toNat := by
  have := xlen_nat hx hl; simp [sgR]; omega
theorem sgO_len {x : Xms} (hx : xmsT x.code = some x) {sig : By} (hl : (sig.length : Int) = xlenS x) : (sgO x sig).length = x.len.toNat * x.n.toNat := by
  have := xlen_nat hx hl; simp [sgO]; omega
theorem sgP_len {x : Xms} (hx : xmsT x.code = some x) {sig : By} (hl : (sig.length : Int) = xlenS x) : (sgP x sig).length = x.h.toNat * x.n.toNat := by
  have := xlen_nat hx hl; simp [sgP]; omega
theorem sgE_len {x : Xms} (hx : xmsT x.code = some x) {sig : By} (hl : (sig.length : Int) = xlenS x) (pb root msg : By) (i : BitVec 32) : ((sgE x pb root msg sig i).length : Int) = x.len * x.n := by
  have hx32 := xms_len hx
  have ho := sgO_len hx hl
  have q2 : ((sgO x sig).length : Int) = x.len * x.n := by rw [ho, Int.natCast_mul]; rw [show (x.len.toNat : Int) = x.len by omega, show (x.n.toNat : Int) = x.n by omega]
  rw [sgE, ends_len' _ x.len.toNat fun j hj => onF_len hx _ _ _ _ j (sig_room hx q2 j (by omega)).1, Int.natCast_mul, show (x.len.toNat : Int) = x.len by omega, show (x.n.toNat : Int) = x.n by omega]
theorem cameS_len {x : Xms} (hx : xmsT x.code = some x) {sig : By} (hl : (sig.length : Int) = xlenS x) (pb root msg : By) (i : BitVec 32) : (cameS x pb root msg sig i).length = x.n.toNat :=
  climbS_len hx _ _ _ _ _ (ltreeS_len hx _ _ _ (sgE_len hx hl pb root msg i))
def σcm (x : Xms) (pb p : By) (i : BitVec 32) (b : By) (h : Nat) : St :=
  ⟨[(1, Enc.enc pb), (6, .ptr 0 0), (13, .i x.n), (16, Enc.enc p), (17, Enc.enc (climbS x pb i.toNat p h b)), (18, .u32 (BitVec.ofNat 32 (i.toNat / 2 ^ h))), (66, .i x.h), (67, .i h)], [(0, ⟨xmC x, true⟩)], 1⟩
set_option maxHeartbeats 8000000 in
theorem rCame_fun (x : Xms) (pb root msg sig : By) (i : BitVec 32) (hx : xmsT x.code = some x) (hpb : (pb.length : Int) = x.n) (hr : root.length ≤ 1000) (hm : msg.length ≤ 100000000) (hl : (sig.length : Int) = xlenS x) :
    Fun Tryz.prog Gs 76 [Enc.enc x, Enc.enc pb, Enc.enc root, Enc.enc msg, Enc.enc sig, Enc.enc i] (Enc.enc (cameS x pb root msg sig i)) := by
  have hx32 := xms_len hx
  have hH := xms_h hx
  have hn0 := CtOK_nil (P := Tryz.prog) (Gl := Gs)
  have hxn : x.n = (x.n.toNat : Int) := by omega
  have hxh : x.h = (x.h.toNat : Int) := by omega
  have hxl : x.len = (x.len.toNat : Int) := by omega
  have hln := xlen_nat hx hl
  have hRl := sgR_len hx hl
  have hOl := sgO_len hx hl
  have hPl := sgP_len hx hl
  have hEl := sgE_len hx hl pb root msg i
  have hm4 : x.h.toNat * x.n.toNat ≤ 20 * 32 := Nat.mul_le_mul (by omega) (by omega)
  have hm5 : x.len.toNat * x.n.toNat ≤ 67 * 32 := Nat.mul_le_mul (by omega) (by omega)
  have q0 : x.len * x.n = ((x.len.toNat * x.n.toNat : Nat) : Int) := by rw [Int.natCast_mul, ← hxn, ← hxl]
  have hOl' : ((sgO x sig).length : Int) = x.len * x.n := by rw [hOl, q0]
  have hMl : (smS x (sgR x sig) root i msg).length = x.n.toNat := smS_len hx _ _ _ _
  have hMl' : ((sgM x root msg sig i).length : Int) = x.n := by rw [sgM, hMl]; omega
  have hM : smS x (sgR x sig) root i msg = sgM x root msg sig i := rfl
  have hE : ends x.len.toNat (onF x pb (sgM x root msg sig i) (sgO x sig) (adO i)) = sgE x pb root msg sig i := rfl
  have d1 : (sig.drop 4).take x.n.toNat = sgR x sig := rfl
  have d2 : (sig.drop (4 + x.n.toNat)).take (x.len.toNat * x.n.toNat) = sgO x sig := rfl
  have d3 : sig.drop (4 + x.n.toNat + x.len.toNat * x.n.toNat) = sgP x sig := rfl
  have e1 : (4 : Int) + x.n = ((4 + x.n.toNat : Nat) : Int) := by omega
  have e2 : ((4 + x.n.toNat : Nat) : Int) + ((x.len.toNat * x.n.toNat : Nat) : Int) = ((4 + x.n.toNat + x.len.toNat * x.n.toNat : Nat) : Int) := by omega
  have e3 : 4 + x.n.toNat - 4 = x.n.toNat := by omega
  have e4 : 4 + x.n.toNat + x.len.toNat * x.n.toNat - (4 + x.n.toNat) = x.len.toNat * x.n.toNat := by omega
  have hwe : adK (BitVec.ofInt 32 0) i 0#32 0#32 = adO i := rfl
  have hwe3 : adK 0#32 i (0 : BitVec 32) (0 : BitVec 32) = adO i := rfl
  have hwe2 : adK 0#32 i 0#32 0#32 = adO i := rfl
  have hwe' : adK (BitVec.ofInt 32 0) i (0 : BitVec 32) (0 : BitVec 32) = adO i := rfl
  have hwl : (adO i).length = 8 := rfl
  have hlt := ltreeS_len hx pb (sgE x pb root msg sig i) i (sgE_len hx hl pb root msg i)
  have hct := ctRXAt_ok (ctRSummed_ok (ctROn1_ok (x := x) (seed := pb) (m := sgM x root msg sig i) (sig := sgO x sig) (ws := adO i) hx (by omega) rfl hMl' hOl' (ctRLtree_ok hn0)))
  refine Fun_cc _ mo Tryz.func76 (by decide) cc76 rs76 Tryz.ntmps76 (by simp) (AW_run hct 1000 ?_)
  simp (maxSteps := 10000000) (disch := omega) only [go_sem, c76, xmC, e1, e2, e3, e4, q0, d1, d2, d3, ctRXAt, smA, ctROn1, ctRLtree, hx, hRl, hOl, hPl, hMl, hM, hE, hEl, hwe, hwe', hwe2, hwe3, hwl, reduceIte, seval, -BitVec.isValue, -BitVec.reduceOfNat, -List.reduceReplicate]
  refine AW_loop (σcm x pb (sgP x sig) i (ltreeS x pb (sgE x pb root msg sig i) i)) (fun h => (h : Int) ≤ x.h) (fun h => x.h.toNat - h) 0 (by simp; omega) (Wk_p [] ?_) fun h hhl => ?_
  · simp only [go_sem, σcm, xmC, climbS, hPl, hln, d3, reduceIte, seval, -BitVec.isValue, -BitVec.reduceOfNat, -List.reduceReplicate]
    try simp
    rw [List.take_of_length_le (by rw [List.length_map, hPl]; exact Nat.le_refl _)]
  · obtain ⟨b, hb⟩ : ∃ b, b = ltreeS x pb (sgE x pb root msg sig i) i := ⟨_, rfl⟩
    obtain ⟨p, hp⟩ : ∃ p, p = sgP x sig := ⟨_, rfl⟩
    rw [← hb] at hlt ⊢
    rw [← hp] at hPl ⊢
    have hcl := climbS_len hx pb i.toNat p h b hlt
    have hi := i.isLt
    by_cases hc : (h : Int) < x.h
    · have hroom : h * x.n.toNat + x.n.toNat ≤ x.h.toNat * x.n.toNat := by rw [← Nat.succ_mul]; exact Nat.mul_le_mul_right _ (by omega)
      have q1 : (h : Int) * x.n = ((h * x.n.toNat : Nat) : Int) := by rw [Int.natCast_mul, ← hxn]
      have q2 : ((h : Int) + 1) * x.n = ((h * x.n.toNat + x.n.toNat : Nat) : Int) := by rw [Int.add_mul, q1, Int.one_mul]; omega
      have q3 : h * x.n.toNat + x.n.toNat - h * x.n.toNat = x.n.toNat := by omega
      have hsp : (p.drop (h * x.n.toNat)).take x.n.toNat = sigP x p h := rfl
      have hsl := sigP_len x p h (by rw [Nat.succ_mul]; omega)
      have hdd : i.toNat / 2 ^ h ≤ i.toNat := Nat.div_le_self _ _
      have hdv := div32w (i.toNat / 2 ^ h) (by omega)
      have hmd := mod32w (i.toNat / 2 ^ h) (by omega)
      have hdv' : BitVec.ofNat 32 (i.toNat / 2 ^ h) / (2 : BitVec 32) = BitVec.ofNat 32 (i.toNat / 2 ^ h / 2) := hdv
      have hmd' : BitVec.ofNat 32 (i.toNat / 2 ^ h) % (2 : BitVec 32) = BitVec.ofNat 32 (i.toNat / 2 ^ h % 2) := hmd
      have hq2 : i.toNat / 2 ^ h / 2 = i.toNat / 2 ^ (h + 1) := by rw [Nat.pow_succ, Nat.div_div_eq_div_mul]
      rw [hq2] at hdv hdv'
      have hoh := oi32 h
      have had : adK (BitVec.ofInt 32 2) (0 : BitVec 32) (BitVec.ofNat 32 h) (BitVec.ofNat 32 (i.toNat / 2 ^ (h + 1))) = adT h (i.toNat / 2 ^ (h + 1)) := rfl
      have had' : adK 2#32 (0 : BitVec 32) (BitVec.ofNat 32 h) (BitVec.ofNat 32 (i.toNat / 2 ^ (h + 1))) = adT h (i.toNat / 2 ^ (h + 1)) := rfl
      have hal : (adT h (i.toNat / 2 ^ (h + 1))).length = 8 := rfl
      have hat : (adT h (i.toNat / 2 ^ (h + 1))).take 8 = adT h (i.toNat / 2 ^ (h + 1)) := rfl
      obtain ⟨cur, hcur⟩ : ∃ cur, cur = climbS x pb i.toNat p h b := ⟨_, rfl⟩
      obtain ⟨sb, hsb⟩ : ∃ sb, sb = sigP x p h := ⟨_, rfl⟩
      have hstep : climbS x pb i.toNat p (h + 1) b = if i.toNat / 2 ^ h % 2 = 0 then nodeS x pb (adT h (i.toNat / 2 ^ (h + 1))) cur sb else nodeS x pb (adT h (i.toNat / 2 ^ (h + 1))) sb cur := by rw [climbS, ← hcur, ← hsb]
      rw [← hcur] at hcl
      rw [← hsb] at hsp hsl
      have hct2 := ctRXAt_ok (ctRNode_ok hn0)
      by_cases he : i.toNat / 2 ^ h % 2 = 0
      · rw [if_pos he] at hstep
        rw [he] at hmd hmd'
        have hnl := nodeS_len hx pb (adT h (i.toNat / 2 ^ (h + 1))) cur sb
        refine AW_ct [ctRXAt, ctRNode] (AW_run hct2 1000 ?_)
        simp (maxSteps := 10000000) (disch := omega) only [go_sem, σcm, xmC, ← hcur, hc, q1, q2, q3, hsp, hsl, hcl, hmd, hmd', hdv, hdv', hoh, ctRXAt, ctRNode, had, had', hal, hat, hx, hnl, reduceIte, seval, -BitVec.isValue, -BitVec.reduceOfNat, -List.reduceReplicate]
        refine ⟨h + 1, by omega, Wk_uf 99 [17] (Wk_p [] ?_), by omega⟩
        simp only [go_sem, σcm, xmC, ufF, ufH, hstep, hnl, reduceIte, seval, -BitVec.isValue, -BitVec.reduceOfNat, -List.reduceReplicate]
        try simp
      · have he1 : i.toNat / 2 ^ h % 2 = 1 := by omega
        rw [if_neg he] at hstep
        rw [he1] at hmd hmd'
        have hnl := nodeS_len hx pb (adT h (i.toNat / 2 ^ (h + 1))) sb cur
        refine AW_ct [ctRXAt, ctRNode] (AW_run hct2 1000 ?_)
        simp (maxSteps := 10000000) (disch := omega) only [go_sem, σcm, xmC, ← hcur, hc, q1, q2, q3, hsp, hsl, hcl, hmd, hmd', hdv, hdv', hoh, ctRXAt, ctRNode, had, had', hal, hat, hx, hnl, reduceIte, seval, -BitVec.isValue, -BitVec.reduceOfNat, -List.reduceReplicate]
        refine ⟨h + 1, by omega, Wk_uf 99 [17] (Wk_p [] ?_), by omega⟩
        simp only [go_sem, σcm, xmC, ufF, ufH, hstep, hnl, reduceIte, seval, -BitVec.isValue, -BitVec.reduceOfNat, -List.reduceReplicate]
        try simp
    · have hge : h = x.h.toNat := by omega
      subst hge
      have hcm : climbS x pb i.toNat p x.h.toNat b = cameS x pb root msg sig i := by rw [hb, hp]; rfl
      refine AW_ct [] (AW_run hn0 1000 ?_)
      simp (maxSteps := 10000000) (disch := omega) only [go_sem, σcm, xmC, hc, hcm, reduceIte, seval, -BitVec.isValue, -BitVec.reduceOfNat, -List.reduceReplicate]
      try simp
def ctRCame : Nat × (List AV → R) := (76, A6 fun (x : Xms) (pb root msg sig : By) (i : BitVec 32) => (xmsT x.code = some x ∧ (pb.length : Int) = x.n ∧ root.length ≤ 1000 ∧ msg.length ≤ 100000000 ∧ (sig.length : Int) = xlenS x, Enc.enc (cameS x pb root msg sig i)))
theorem ctRCame_ok {Ct : List (Nat × (List AV → R))} (h : CtOK Tryz.prog Gs Ct) : CtOK Tryz.prog Gs (ctRCame :: Ct) := CtOK_cons (Row6 fun x pb root msg sig i h => rCame_fun x pb root msg sig i h.1 h.2.1 h.2.2.1 h.2.2.2.1 h.2.2.2.2) h
end Go.Lv
