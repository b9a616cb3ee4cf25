/- A part of the proof. -/
import Derived.Test.YtijhplgdhjkdpaaGreatDoorIe
import Derived.Test.YtijhplgdhjkdpaaGreatDoorGH
import Derived.Test.YtijhplgdhjkdpaaGreatDoorGK
set_option linter.all false
namespace Go.Lv
open Go Go.Proofs
set_option linter.unusedSimpArgs false
set_option maxRecDepth 100000

/-! ## Whether a signature is right -/
def pbC (pub : By) : BitVec 32 := (numS (pub.take 4)).setWidth 32
def sgI (sig : By) : BitVec 32 := (numS (sig.take 4)).setWidth 32
def pbR (x : Xms) (pub : By) : By := (pub.drop 4).take x.n.toNat
def pbS (x : Xms) (pub : By) : By := pub.drop (4 + x.n.toNat)
def vfyE (pub msg sig : By) : Int :=
  if pub.length < 4 then 81 else match xmsT (pbC pub) with
  | none => 81
  | some x => if (pub.length : Int) = xpubL x then (if xixE x sig = 0 then (if cameS x (pbS x pub) (pbR x pub) msg sig (sgI sig) = pbR x pub then 0 else 70) else 70) else 81
theorem xix_zero {x : Xms} {sig : By} (h : xixE x sig = 0) : xmsT x.code = some x ∧ (sig.length : Int) = xlenS x ∧ ¬ (1 : BitVec 64) <<< x.h.toNat ≤ numS (sig.take 4) := by
  unfold xixE at h
  split at h
  · rename_i h1
    split at h
    · rename_i h2
      split at h
      · cases h
      · rename_i h3; exact ⟨h1, h2, h3⟩
    · cases h
  · cases h
theorem pub_parts {x : Xms} (hx : xmsT x.code = some x) {pub : By} (h : (pub.length : Int) = xpubL x) : pub.length = 4 + x.n.toNat + x.n.toNat ∧ (pbR x pub).length = x.n.toNat ∧ (pbS x pub).length = x.n.toNat := by
  have hx32 := xms_len hx
  rw [xpubL, if_pos hx] at h
  refine ⟨by omega, ?_, ?_⟩
  · simp [pbR]; omega
  · simp [pbS]; omega
set_option maxHeartbeats 8000000 in
theorem Verify_fun (pub msg sig : By) (hm : msg.length ≤ 100000000) :
    Fun Tryz.prog Gs 37 [Enc.enc pub, Enc.enc msg, Enc.enc sig] (.i (vfyE pub msg sig)) := by
  have hn0 := CtOK_nil (P := Tryz.prog) (Gl := Gs)
  refine Fun_cc [ctBigOf, ctXmss 70, xpA 71, ixA 35, smA 60, wonA 72, ctLtree, ctUp, ctSame] mo Tryz.func37 (by decide) cc37 rs37 Tryz.ntmps37 (by simp) ?_
  have hct := ctBigOf_ok (ctXmss_ok (ctXPub_ok (ctXIndex_ok (ctSummed_ok (ctWOn_ok (ctLtree_ok (ctUp_ok (ctSame_ok hn0))))))))
  by_cases h4 : pub.length < 4
  · have hE : vfyE pub msg sig = 81 := by rw [vfyE, if_pos h4]
    have h4' : (pub.length : Int) < 4 := by omega
    rw [hE]
    refine AW_run hct 1000 ?_
    simp (maxSteps := 10000000) (disch := omega) only [go_sem, c37, h4', reduceIte, seval, -BitVec.isValue, -BitVec.reduceOfNat, -List.reduceReplicate]
    try simp
  · have h4' : ¬ (pub.length : Int) < 4 := by omega
    have ht : (pub.take 4).length = 4 := by rw [List.length_take]; omega
    have hml : min 4 pub.length = 4 := by omega
    have hC : (numS (pub.take 4)).setWidth 32 = pbC pub := rfl
    obtain ⟨q, hq⟩ : ∃ q, q = pub.take 4 := ⟨_, rfl⟩
    rw [← hq] at ht hC
    cases hx : xmsT (pbC pub) with
    | none =>
      have hE : vfyE pub msg sig = 81 := by rw [vfyE, if_neg h4, hx]
      have hX : xmsR (pbC pub) = .tup [.agg [.u32 0, .b false, .i 0, .i 0, .i 0], .i 60] := by rw [xmsR, hx]; rfl
      rw [hE]
      refine AW_run hct 1000 ?_
      simp (maxSteps := 10000000) (disch := omega) only [go_sem, c37, eq_false h4', ← hq, ht, hml, hC, ctBigOf, ctXmss, hX, reduceIte, seval, -BitVec.isValue, -BitVec.reduceOfNat, -List.reduceReplicate]
      try simp
    | some x =>
      have hX : xmsR (pbC pub) = .tup [.agg [.u32 x.code, .b x.shake, .i x.n, .i x.h, .i x.len], .i 0] := by rw [xmsR, hx]; rfl
      have hxx : xmsT x.code = some x := by rw [xmsT_code hx]; exact hx
      by_cases hp : (pub.length : Int) = xpubL x
      · obtain ⟨p1, p2, p3⟩ := pub_parts hxx hp
        by_cases hi : xixE x sig = 0
        · obtain ⟨_, hl, _⟩ := xix_zero hi
          have hI : xixR x sig = .tup [.u32 (sgI sig), .i 0] := by rw [xixR, if_pos hi]; rfl
          have hE : vfyE pub msg sig = if cameS x (pbS x pub) (pbR x pub) msg sig (sgI sig) = pbR x pub then 0 else 70 := by rw [vfyE, if_neg h4, hx]; simp only [if_pos hp, if_pos hi]
          obtain ⟨i, hii⟩ : ∃ i, i = sgI sig := ⟨_, rfl⟩
          rw [← hii] at hE hI
          have hx32 := xms_len hxx
          have hH := xms_h hxx
          have hxn : x.n = (x.n.toNat : Int) := by omega
          have hxh : x.h = (x.h.toNat : Int) := by omega
          have hxl : x.len = (x.len.toNat : Int) := by omega
          have hln := xlen_nat hxx hl
          have hRl := sgR_len hxx hl
          have hOl := sgO_len hxx hl
          have hPl := sgP_len hxx hl
          have hm4 : x.h.toNat * x.n.toNat ≤ 20 * 32 := Nat.mul_le_mul (by omega) (by omega)
          have hm5 : x.len.toNat * x.n.toNat ≤ 67 * 32 := Nat.mul_le_mul (by omega) (by omega)
          have q0 : x.len * x.n = ((x.len.toNat * x.n.toNat : Nat) : Int) := by rw [Int.natCast_mul, ← hxn, ← hxl]
          have hOl' : ((sgO x sig).length : Int) = x.len * x.n := by rw [hOl, q0]
          have hMl : (smS x (sgR x sig) (pbR x pub) i msg).length = x.n.toNat := smS_len hxx _ _ _ _
          have hMl' : ((sgM x (pbR x pub) msg sig i).length : Int) = x.n := by rw [sgM, hMl]; omega
          have hM : smS x (sgR x sig) (pbR x pub) i msg = sgM x (pbR x pub) msg sig i := rfl
          have m2 : wmayE x [pbS x pub, sgM x (pbR x pub) msg sig i] = 0 := by
            rw [wmayE, if_pos hxx, if_pos]
            intro p hp
            simp only [List.mem_cons, List.not_mem_nil, or_false] at hp
            rcases hp with rfl | rfl <;> omega
          have w0 : wonE x (pbS x pub) (sgM x (pbR x pub) msg sig i) (sgO x sig) = 0 := by rw [wonE, if_pos m2, if_pos hOl']
          have wV : wonV x (pbS x pub) (sgM x (pbR x pub) msg sig i) (sgO x sig) (adO i) = sgE x (pbS x pub) (pbR x pub) msg sig i := by rw [wonV, if_pos w0]; rfl
          have hEl := sgE_len hxx hl (pbS x pub) (pbR x pub) msg i
          have hEl2 : (sgE x (pbS x pub) (pbR x pub) msg sig i).length = x.len.toNat * x.n.toNat := by rw [q0] at hEl; omega
          have hlt := ltreeS_len hxx (pbS x pub) (sgE x (pbS x pub) (pbR x pub) msg sig i) i hEl
          have d1 : (sig.drop 4).take x.n.toNat = sgR x sig := rfl
          have d2 : (sig.drop (4 + x.n.toNat)).take (x.len.toNat * x.n.toNat) = sgO x sig := rfl
          have d3 : sig.drop (4 + x.n.toNat + x.len.toNat * x.n.toNat) = sgP x sig := rfl
          have d3' : (sig.drop (4 + x.n.toNat)).drop (x.len.toNat * x.n.toNat) = sgP x sig := by rw [List.drop_drop]; rfl
          have d4 : (pub.drop 4).take x.n.toNat = pbR x pub := rfl
          have d5 : pub.drop (4 + x.n.toNat) = pbS x pub := rfl
          have e1 : (4 : Int) + x.n = ((4 + x.n.toNat : Nat) : Int) := by omega
          have e3 : 4 + x.n.toNat - 4 = x.n.toNat := by omega
          have hwe : ([.u32 0, .u32 0, .u32 0, .u32 0, .u32 i, .u32 0, .u32 0, .u32 0] : List AV) = (adO i).map .u32 := rfl
          have hwe' : ([.u32 0#32, .u32 0#32, .u32 0#32, .u32 0#32, .u32 i, .u32 0#32, .u32 0#32, .u32 0#32] : List AV) = (adO i).map .u32 := rfl
          have hwl : (adO i).length = 8 := rfl
          obtain ⟨S4, hS4⟩ : ∃ S4, S4 = sig.drop (4 + x.n.toNat) := ⟨_, rfl⟩
          have l1 : sig.length - (4 + x.n.toNat) = x.len.toNat * x.n.toNat + x.h.toNat * x.n.toNat := by omega
          have l2 : x.len.toNat * x.n.toNat + x.h.toNat * x.n.toNat - x.len.toNat * x.n.toNat = x.h.toNat * x.n.toNat := by omega
          have l5 : pub.length - (4 + x.n.toNat) = x.n.toNat := by omega
          have u1 : (List.drop (4 + x.n.toNat) (sig.map AV.u8)).take (x.len.toNat * x.n.toNat + x.h.toNat * x.n.toNat) = S4.map AV.u8 := by rw [← List.map_drop, ← hS4, List.take_of_length_le]; rw [List.length_map, hS4, List.length_drop]; omega
          have u2 : (S4.map AV.u8).take (x.len.toNat * x.n.toNat) = (sgO x sig).map AV.u8 := by rw [← List.map_take, hS4]; rfl
          have u3 : (S4.map AV.u8).drop (x.len.toNat * x.n.toNat) = (sgP x sig).map AV.u8 := by rw [← List.map_drop, hS4, List.drop_drop]; rfl
          have u4 : ((sgP x sig).map AV.u8).take (x.h.toNat * x.n.toNat) = (sgP x sig).map AV.u8 := List.take_of_length_le (by rw [List.length_map]; omega)
          have u5 : ((pbS x pub).map AV.u8).take x.n.toNat = (pbS x pub).map AV.u8 := List.take_of_length_le (by rw [List.length_map]; omega)
          have v1 : (sig.drop (4 + x.n.toNat)).take (x.len.toNat * x.n.toNat + x.h.toNat * x.n.toNat) = S4 := by rw [← hS4, List.take_of_length_le]; rw [hS4, List.length_drop]; omega
          have v2 : S4.take (x.len.toNat * x.n.toNat) = sgO x sig := by rw [hS4]; rfl
          have v3 : S4.drop (x.len.toNat * x.n.toNat) = sgP x sig := by rw [hS4, List.drop_drop]; rfl
          have v4 : (sgP x sig).take (x.h.toNat * x.n.toNat) = sgP x sig := List.take_of_length_le (by omega)
          have v5 : (pbS x pub).take x.n.toNat = pbS x pub := List.take_of_length_le (by omega)
          have l6 : x.len.toNat * x.n.toNat - 0 = x.len.toNat * x.n.toNat := rfl
          have hcl := cameS_len hxx hl (pbS x pub) (pbR x pub) msg i
          have hcm : climbS x (pbS x pub) i.toNat (sgP x sig) x.h.toNat (ltreeS x (pbS x pub) (sgE x (pbS x pub) (pbR x pub) msg sig i) i) = cameS x (pbS x pub) (pbR x pub) msg sig i := rfl
          rw [hE]
          by_cases hr : cameS x (pbS x pub) (pbR x pub) msg sig i = pbR x pub
          · rw [if_pos hr]
            refine AW_run hct 1000 ?_
            simp (maxSteps := 10000000) (disch := omega) only [go_sem, c37, eq_false h4', ← hq, ht, hml, hC, ctBigOf, ctXmss, hX, xpA, ← hp, ixA, hI, xmC, e1, e3, d1, d4, d5, q0, l1, l2, l5, d1, l6, u1, u2, u3, u4, u5, v1, v2, v3, v4, v5, smA, wonA, ctLtree, ctUp, ctSame, hxx, hM, hMl, hMl', hOl, hPl, hRl, p2, p3, w0, wV, hEl, hEl2, hlt, hwe, hwe', hwl, hcm, hcl, hr, decide_true, reduceIte, seval, -BitVec.isValue, -BitVec.reduceOfNat, -List.reduceReplicate]
            try simp
          · rw [if_neg hr]
            refine AW_run hct 1000 ?_
            simp (maxSteps := 10000000) (disch := omega) only [go_sem, c37, eq_false h4', ← hq, ht, hml, hC, ctBigOf, ctXmss, hX, xpA, ← hp, ixA, hI, xmC, e1, e3, d1, d4, d5, q0, l1, l2, l5, d1, l6, u1, u2, u3, u4, u5, v1, v2, v3, v4, v5, smA, wonA, ctLtree, ctUp, ctSame, hxx, hM, hMl, hMl', hOl, hPl, hRl, p2, p3, w0, wV, hEl, hEl2, hlt, hwe, hwe', hwl, hcm, hcl, hr, decide_false, reduceIte, seval, -BitVec.isValue, -BitVec.reduceOfNat, -List.reduceReplicate]
            try simp
        · have hE : vfyE pub msg sig = 70 := by rw [vfyE, if_neg h4, hx]; simp only [if_pos hp, if_neg hi]
          obtain ⟨e, he⟩ : ∃ e, e = xixE x sig := ⟨_, rfl⟩
          have hI : xixR x sig = .tup [.u32 0, .i e] := by rw [xixR, if_neg hi, he]
          rw [← he] at hi
          rw [hE]
          refine AW_run hct 1000 ?_
          simp (maxSteps := 10000000) (disch := omega) only [go_sem, c37, eq_false h4', ← hq, ht, hml, hC, ctBigOf, ctXmss, hX, xpA, ← hp, ixA, hI, xmC, eq_false hi, reduceIte, seval, -BitVec.isValue, -BitVec.reduceOfNat, -List.reduceReplicate]
          try simp
      · have hE : vfyE pub msg sig = 81 := by rw [vfyE, if_neg h4, hx]; simp only [if_neg hp]
        rw [hE]
        refine AW_run hct 1000 ?_
        simp (maxSteps := 10000000) (disch := omega) only [go_sem, c37, eq_false h4', ← hq, ht, hml, hC, ctBigOf, ctXmss, hX, xpA, xmC, eq_false hp, reduceIte, seval, -BitVec.isValue, -BitVec.reduceOfNat, -List.reduceReplicate]
        try simp
def ctVerify (n : Nat) : Nat × (List AV → R) := (n, A3 fun (pub msg sig : By) => (msg.length ≤ 100000000, .i (vfyE pub msg sig)))
theorem ctXVerify_ok {Ct : List (Nat × (List AV → R))} (h : CtOK Tryz.prog Gs Ct) : CtOK Tryz.prog Gs (ctVerify 37 :: Ct) := CtOK_cons (Row3 fun a b c h => Verify_fun a b c h) h
end Go.Lv
