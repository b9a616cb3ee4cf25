/- A part of the proof. -/
import Derived.Test.YtkpeoplkldpmlaaDoorGV
import Derived.Test.YtkpeoplkldpmlaaDoorKpliveryref09
import Derived.Test.YtkpeoplkldpmlaaDoorKpliverylaw09
set_option linter.all false
namespace Go.Lv
open Go Go.Proofs
set_option linter.unusedSimpArgs false
set_option maxRecDepth 100000

def ctRChild : Nat × (List AV → R) := (73, A4 fun (v : Level) (id : Ar (BitVec 8)) (seed : By) (q : BitVec 32) => (vfit v ∧ id.l.length = 16 ∧ seed.length ≤ 100000000, .tup [.agg (((secS (hO (otsX v.b)) (hdS id.l q) seed 65535).take 16).map .u8), Enc.ret (secS (hO (otsX v.b)) (hdS id.l q) seed 65534)]))
theorem ctRChild_ok {Ct : List (Nat × (List AV → R))} (h : CtOK Tryd.prog Gs Ct) : CtOK Tryd.prog Gs (ctRChild :: Ct) := CtOK_cons (Row4 fun v id seed q h => rChild_fun v id.l q seed h.1 h.2.1 h.2.2) h
theorem eqL_zer : eqL [false, false, false, false, false, false, false, false, false, false, false, false, false, false, false, false] [AV.u8 0#8, AV.u8 0#8, AV.u8 0#8, AV.u8 0#8, AV.u8 0#8, AV.u8 0#8, AV.u8 0#8, AV.u8 0#8, AV.u8 0#8, AV.u8 0#8, AV.u8 0#8, AV.u8 0#8, AV.u8 0#8, AV.u8 0#8, AV.u8 0#8, AV.u8 0#8] [AV.u8 0#8, AV.u8 0#8, AV.u8 0#8, AV.u8 0#8, AV.u8 0#8, AV.u8 0#8, AV.u8 0#8, AV.u8 0#8, AV.u8 0#8, AV.u8 0#8, AV.u8 0#8, AV.u8 0#8, AV.u8 0#8, AV.u8 0#8, AV.u8 0#8, AV.u8 0#8] = some true := eqL_8 [false, false, false, false, false, false, false, false, false, false, false, false, false, false, false, false] (List.replicate 16 0#8) (List.replicate 16 0#8) rfl rfl rfl
def σhs (ls : List Level) (x : BitVec 64) (id : By) (seed : By) (q : BitVec 32) (k : Nat) : St :=
  ⟨[(0, .ros false ls.length (lvc ls)), (3, Enc.enc seed), (4, .u32 q), (7, .ptr 0 0), (11, Enc.ret (leaves ls x)), (13, Enc.ret (leaves ls x)), (71, .i ls.length), (72, .i k)], [(0, ⟨id.map .u8, true⟩)], 1⟩
set_option maxHeartbeats 8000000 in
theorem HSplits_fun (ls : List Level) (x : BitVec 64) (id : By) (seed : By) (q : BitVec 32) (hl : ls.length ≤ 140737488351232) (hid : id.length = 16) (_hs : seed.length ≤ 140737488351232) :
    Fun Tryd.prog Gs 15 [.ros false ls.length (lvc ls), Enc.enc x, Enc.enc (⟨id⟩ : Ar (BitVec 8)), Enc.enc seed, Enc.enc q] (.b true) := by
  refine Fun_cc [ctLive9, ctSplit, ctRMayL, ctCount 69, ctRSplit, ctChild, ctRMayIndex, ctRChild, ctEqual] mo Tryd.func15 (by decide) cc15 rs15 Tryd.ntmps15 (by simp) ?_
  have hct := ctLive9_ok (ctSplit_ok (ctRMayL_ok (ctRCount_ok (ctRSplit_ok (ctChild_ok (ctRMayIndex_ok (ctRChild_ok (ctEqual_ok CtOK_nil))))))))
  by_cases h1 : (100 : Int) < ls.length
  · refine AW_run hct 1000 ?_
    simp (maxSteps := 10000000) (disch := omega) only [go_sem, c15, ctLive9, ctSplit, ctRMayL, ctCount, ctRSplit, ctChild, ctRMayIndex, ctRChild, ctEqual, eq_true h1, reduceIte, seval, -BitVec.isValue, -BitVec.reduceOfNat, -List.reduceReplicate]
  by_cases hm : mayP ls
  · have h8 := hm.2.1
    have hg1 := hm.1
    by_cases hx : x < pw (hs ls ls.length)
    · have hx' : ¬ (pw (hs ls ls.length) ≤ x) := by rw [BitVec.le_def]; rw [BitVec.lt_def] at hx; omega
      have sL : splitL ls x = leaves ls x := by rw [splitL, if_pos hm, if_pos hx]
      have sE : splitE ls x = 0 := by rw [splitE, if_pos hm, if_pos hx]
      have hll := leaves_length ls x
      have hit : id.take 16 = id := List.take_of_length_le (by omega)
      have hat := lvc_at' ls 0 (by omega)
      rw [Nat.zero_mul, List.drop_zero] at hat
      obtain ⟨v, hv⟩ : ∃ v, v = ls.getD 0 lv0 := ⟨_, rfl⟩
      rw [← hv] at hat
      have hd : deV [AV.u32 v.a, AV.u32 v.b] = [v] := rfl
      have hvf : vfit v := by rw [hv]; exact (hm.2.2.1 0 (by omega)).1
      refine AW_run hct 1000 ?_
      simp (maxSteps := 10000000) (disch := omega) only [go_sem, c15, ctLive9, ctSplit, ctRMayL, ctCount, ctRSplit, ctChild, ctRMayIndex, ctRChild, ctEqual, eq_false h1, eq_true hm, decide_true, eq_false hx', sL, sE, hid, hll, reduceIte, seval, -BitVec.isValue, -BitVec.reduceOfNat, -List.reduceReplicate]
      refine AW_loop (σhs ls x id seed q) (fun k => k ≤ ls.length) (fun k => ls.length - k) 0 (Nat.zero_le _) (Wk_p [] ?_) fun k hk => ?_
      · simp only [go_sem, σhs, hll, reduceIte, seval, -BitVec.isValue, -BitVec.reduceOfNat, -List.reduceReplicate]
        try simp
      · by_cases hc : k < ls.length
        · refine AW_ct [ctLive9, ctSplit, ctRMayL, ctCount 69, ctRSplit, ctChild, ctRMayIndex, ctRChild, ctEqual] (AW_run hct 1000 ?_)
          have hc' : (k : Int) < ls.length := by omega
          simp (maxSteps := 10000000) (disch := omega) only [go_sem, σhs, hc', hll, reduceIte, seval, -BitVec.isValue, -BitVec.reduceOfNat, -List.reduceReplicate]
          refine ⟨k + 1, by omega, Wk_p [] ?_, by omega⟩
          simp only [go_sem, σhs, hll, reduceIte, seval, -BitVec.isValue, -BitVec.reduceOfNat, -List.reduceReplicate]
          try simp
        · have : k = ls.length := by omega
          subst this
          by_cases hE : miE v seed (q.setWidth 64) = 0
          · have hR : ChildR v id q seed = .tup [.agg (((secS (hO (otsX v.b)) (hdS id q) seed 65535).take 16).map .u8), Enc.ret (secS (hO (otsX v.b)) (hdS id q) seed 65534), .i 0] := by rw [ChildR, if_pos hE]
            have hsl : (seed.length : Int) = (lmsX v.a).n := by
              unfold miE at hE
              split at hE
              · split at hE
                · assumption
                · omega
              · omega
            have hsn := (lmsX_ok v.a).2.2.2
            have hl16 : ((secS (hO (otsX v.b)) (hdS id q) seed 65535).take 16).length = 16 := by
              have := secS_len (otsT_ok (vfit_ots v hvf)) (hdS id q) seed 65535
              have := (otsT_ok (vfit_ots v hvf)).n
              simp; omega
            obtain ⟨Y, hY⟩ : ∃ Y, Y = (secS (hO (otsX v.b)) (hdS id q) seed 65535).take 16 := ⟨_, rfl⟩
            rw [← hY] at hl16 hR
            have hYm : (Y.map AV.u8).take 16 = Y.map AV.u8 := List.take_of_length_le (by simp [hl16])
            have hq : eqL [false, false, false, false, false, false, false, false, false, false, false, false, false, false, false, false] (Y.map AV.u8) (Y.map AV.u8) = some true := by rw [eqL_8 _ _ _ rfl hl16 hl16, decide_eq_true rfl]
            refine AW_ct [ctLive9, ctSplit, ctRMayL, ctCount 69, ctRSplit, ctChild, ctRMayIndex, ctRChild, ctEqual] (AW_run hct 1000 ?_)
            simp (maxSteps := 10000000) (disch := omega) only [go_sem, σhs, ctLive9, ctSplit, ctRMayL, ctCount, ctRSplit, ctChild, ctRMayIndex, ctRChild, ctEqual, hq, hll, hat, hd, hR, hE, hid, hit, ← hY, hl16, hYm, eq_true hvf, List.getD_cons_zero, List.length_cons, List.length_nil, reduceIte, seval, -BitVec.isValue, -BitVec.reduceOfNat, -List.reduceReplicate]
            try simp
          · have hR : ChildR v id q seed = .tup [zarr, .ros true 0 [], .i (miE v seed (q.setWidth 64))] := by rw [ChildR, if_neg hE]
            obtain ⟨e, he⟩ : ∃ e, e = miE v seed (q.setWidth 64) := ⟨_, rfl⟩
            rw [← he] at hE hR
            refine AW_ct [ctLive9, ctSplit, ctRMayL, ctCount 69, ctRSplit, ctChild, ctRMayIndex, ctRChild, ctEqual] (AW_run hct 1000 ?_)
            simp (maxSteps := 10000000) (disch := omega) only [go_sem, σhs, ctLive9, ctSplit, ctRMayL, ctCount, ctRSplit, ctChild, ctRMayIndex, ctRChild, ctEqual, eqL, eq1, hll, hat, hd, hR, ← he, eq_false hE, hid, hit, zarr, zer16, List.getD_cons_zero, List.length_cons, List.length_nil, reduceIte, seval, -BitVec.isValue, -BitVec.reduceOfNat, -List.reduceReplicate]
            try simp
    · have hx' : pw (hs ls ls.length) ≤ x := by rw [BitVec.le_def]; rw [BitVec.lt_def] at hx; omega
      have sL : splitL ls x = [] := by rw [splitL, if_pos hm, if_neg hx]
      have sE : splitE ls x = 80 := by rw [splitE, if_pos hm, if_neg hx]
      refine AW_run hct 1000 ?_
      simp (maxSteps := 10000000) (disch := omega) only [go_sem, c15, ctLive9, ctSplit, ctRMayL, ctCount, ctRSplit, ctChild, ctRMayIndex, ctRChild, ctEqual, eq_false h1, eq_true hm, decide_true, eq_true hx', sL, sE, List.length_nil, reduceIte, seval, -BitVec.isValue, -BitVec.reduceOfNat, -List.reduceReplicate]
  · have sL : splitL ls x = [] := by rw [splitL, if_neg hm]
    have sE : splitE ls x = 90 := by rw [splitE, if_neg hm]
    refine AW_run hct 1000 ?_
    simp (maxSteps := 10000000) (disch := omega) only [go_sem, c15, ctLive9, ctSplit, ctRMayL, ctCount, ctRSplit, ctChild, ctRMayIndex, ctRChild, ctEqual, eq_false h1, eq_false hm, decide_false, sL, sE, List.length_nil, reduceIte, seval, -BitVec.isValue, -BitVec.reduceOfNat, -List.reduceReplicate]
end Go.Lv
