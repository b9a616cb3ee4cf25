/- A part of the proof. -/
import Derived.Test.YtmpfooekljbhhaaDoorFf
import Derived.Test.YtmpfooekljbhhaaDoorGF
import Derived.Test.YtmpfooekljbhhaaDoorGK
set_option linter.all false
namespace Go.Lv
open Go Go.Proofs
set_option linter.unusedSimpArgs false
set_option maxRecDepth 100000

/-! ## Law: which words of an address do not matter -/
def chV (x : Xms) (b : By) (f t : Int) (seed : By) (ws : List (BitVec 32)) : By := if wchE x b f t seed = 0 then goS x seed ws f.toNat t.toNat b else []
theorem wchR_eq (x : Xms) (b : By) (f t : Int) (seed : By) (ws : List (BitVec 32)) : wchR x b f t seed ws = .tup [Enc.ret (chV x b f t seed ws), .i (wchE x b f t seed)] := by
  unfold wchR chV; split
  · rename_i h; rw [h]
  · rfl
theorem chV_with (x : Xms) (b : By) (f t : Int) (seed : By) (ws : List (BitVec 32)) (u v : BitVec 32) : chV x b f t seed ((ws.set 6 u).set 7 v) = chV x b f t seed ws := by
  unfold chV; rw [goS_with]
def secV (x : Xms) (sk seed : By) (ws : List (BitVec 32)) (i : Int) : By := if wsecE x sk seed i = 0 then begS x sk seed ws (BitVec.ofInt 32 i) else []
theorem wsecR_eq (x : Xms) (sk seed : By) (ws : List (BitVec 32)) (i : Int) : wsecR x sk seed ws i = .tup [Enc.ret (secV x sk seed ws i), .i (wsecE x sk seed i)] := by
  unfold wsecR secV; split
  · rename_i h; rw [h]
  · rfl
theorem withS_5 (ws : List (BitVec 32)) (u v w c s q : BitVec 32) : withS ((((ws.set 6 u).set 7 v).set 5 w).set 5 c) s q = withS (ws.set 5 c) s q := by
  simp only [withS]
  rw [List.set_set, List.set_comm v c (by decide), List.set_comm u c (by decide), List.set_comm v s (by decide), List.set_set, List.set_set]
theorem secV_with (x : Xms) (sk seed : By) (ws : List (BitVec 32)) (i : Int) (u v w : BitVec 32) : secV x sk seed (((ws.set 6 u).set 7 v).set 5 w) i = secV x sk seed ws i := by
  unfold secV begS; rw [withS_5]
set_option maxHeartbeats 4000000 in
theorem WCounts_fun (x : Xms) (sk seed : By) (ws os : List (BitVec 32)) (_ : x.ok) (hk : sk.length ≤ 140737488351232) (hs : seed.length ≤ 140737488351232) (hw : ws.length = 8) (ho : os.length = 8) :
    Fun Tryd.prog Gs 10 [Enc.enc x, Enc.enc sk, Enc.enc seed, Enc.enc (⟨ws⟩ : Ar (BitVec 32)), Enc.enc (⟨os⟩ : Ar (BitVec 32))] (.b true) := by
  have hbb := bb2 sk seed hk hs
  have hwt : ws.take 8 = ws := List.take_of_length_le (by omega)
  by_cases hf : fewP [sk, seed]
  · obtain ⟨f1, f2⟩ := few2 hf
    have hct := mark_ok 25 (ctWlive_ok (ctFew_ok (ctWChain_ok (ctWSecret_ok (ctEqual_ok (CtOK_nil (P := Tryd.prog) (Gl := Gs)))))))
    have t1 : ∀ u v : BitVec 32, ((ws.set 6 u).set 7 v).take 8 = (ws.set 6 u).set 7 v := fun u v => List.take_of_length_le (by simp [hw])
    have t2 : ∀ u v w : BitVec 32, (((ws.set 6 u).set 7 v).set 5 w).take 8 = ((ws.set 6 u).set 7 v).set 5 w := fun u v w => List.take_of_length_le (by simp [hw])
    refine Fun_cc _ mo Tryd.func10 (by decide) cc10 rs10 Tryd.ntmps10 (by simp) (AW_run hct 23 ?_)
    simp (maxSteps := 10000000) (disch := omega) only [go_sem, c10, mark, ctWlive, ctFew, ctWChain, ctWSecret, ctEqual, hbb, hf, hw, ho, hwt, ← List.map_set, t1, t2, wchR_eq, wsecR_eq, chV_with, secV_with, deL_cons, deL_nil, reduceIte, seval, -BitVec.isValue, -BitVec.reduceOfNat, -List.reduceReplicate]
    refine AW_ct [mark 25, ctWlive, ctFew, ctWChain, ctWSecret, ctEqual] (AW_drr hct 1000 [(2, ⟨os.map .u32, true⟩)] rfl (by simp only [go_sem, reduceIte, seval, -BitVec.isValue, -BitVec.reduceOfNat, -List.reduceReplicate]) ?_)
    simp (maxSteps := 10000000) (disch := omega) only [go_sem, mark, ctWlive, ctFew, ctWChain, ctWSecret, ctEqual, hbb, hf, hw, ho, hwt, ← List.map_set, t1, t2, wchR_eq, wsecR_eq, chV_with, secV_with, deL_cons, deL_nil, reduceIte, seval, -BitVec.isValue, -BitVec.reduceOfNat, -List.reduceReplicate]
    try simp
  · have hct := mark_ok 25 (ctWlive_ok (ctFew_ok (CtOK_nil (P := Tryd.prog) (Gl := Gs))))
    refine Fun_cc _ mo Tryd.func10 (by decide) cc10 rs10 Tryd.ntmps10 (by simp) (AW_run hct 1000 ?_)
    simp (maxSteps := 10000000) (disch := omega) only [go_sem, c10, mark, ctWlive, ctFew, hbb, hf, hw, ho, deL_cons, deL_nil, reduceIte, seval, -BitVec.isValue, -BitVec.reduceOfNat, -List.reduceReplicate]
    try simp
end Go.Lv
