/- A part of the proof. -/
import Derived.Test.YtmpfooekljbhhaaDoorFo
import Derived.Test.YtmpfooekljbhhaaDoorFe
import Derived.Test.YtmpfooekljbhhaaDoorGK
set_option linter.all false
namespace Go.Lv
open Go Go.Proofs
set_option linter.unusedSimpArgs false
set_option maxRecDepth 100000

theorem on_sign {x : Xms} (hx : xmsT x.code = some x) (sk seed m : By) (ws : List (BitVec 32)) (hm : m.length ≤ 32) :
    ends x.len.toNat (onF x seed m (ends x.len.toNat (endF x sk seed ws (dgN m))) ws) = ends x.len.toNat (endF x sk seed ws pubN) := by
  refine ends_congr _ fun i hi => ?_
  have hd := dgN_le m i hm
  rw [onF, sigP, ends_at _ (endF_len hx sk seed ws (dgN m)) _ _ hi, endF, endF, pubN]
  have := goS_add x seed (w5 ws i) 0 (dgN m i) (15 - dgN m i) (begK x sk seed ws i)
  rw [show dgN m i + (15 - dgN m i) = 15 by omega, Nat.zero_add] at this
  exact this.symm
set_option maxHeartbeats 2000000 in
theorem WVerifies_fun (x : Xms) (sk seed m : By) (ws : List (BitVec 32)) (_ : x.ok) (h0 : sk.length ≤ 140737488351232) (h1 : seed.length ≤ 140737488351232) (h2 : m.length ≤ 140737488351232) (hw : ws.length = 8) :
    Fun Tryd.prog Gs 13 [Enc.enc x, Enc.enc sk, Enc.enc seed, Enc.enc m, Enc.enc (⟨ws⟩ : Ar (BitVec 32))] (.b true) := by
  have hbb := bb3 sk seed m h0 h1 h2
  have hwt : ws.take 8 = ws := List.take_of_length_le (by omega)
  by_cases hf : fewP [sk, seed, m]
  · obtain ⟨f0, f1, f2⟩ := few3 hf
    have hct := mark_ok 23 (ctWlive_ok (ctFew_ok (ctWSign_ok (ctWPublic_ok (ctWOn_ok (ctEqual_ok (CtOK_nil (P := Tryd.prog) (Gl := Gs))))))))
    by_cases h : wmayE x [sk, seed, m] = 0
    · obtain ⟨hx, hp⟩ := wmayE_zero h
      have p0 := hp sk (by simp)
      have p1 := hp seed (by simp)
      have p2 := hp m (by simp)
      have hx32 := xms_len hx
      obtain ⟨hd1, hd2⟩ := xms_dig hx p2
      have e1 := wmayE_mk hx p0 p1
      have e2 := wmayE_mk hx p1 p2
      have S : wsigV x sk seed m ws = ends x.len.toNat (endF x sk seed ws (dgN m)) := by rw [wsigV, if_pos h]
      have P : wpubV x sk seed ws = ends x.len.toNat (endF x sk seed ws pubN) := by rw [wpubV, if_pos e1]
      have hxn : x.n = (x.n.toNat : Int) := by omega
      have hxl : x.len = (x.len.toNat : Int) := by omega
      have lS : (wsigV x sk seed m ws).length = x.len.toNat * x.n.toNat := by rw [S]; exact ends_len _ (endF_len hx sk seed ws (dgN m)) _
      have lP : (wpubV x sk seed ws).length = x.len.toNat * x.n.toNat := by rw [P]; exact ends_len _ (endF_len hx sk seed ws pubN) _
      have hmul : x.len * x.n = ((x.len.toNat * x.n.toNat : Nat) : Int) := by rw [Int.natCast_mul, ← hxn, ← hxl]
      have hle : x.len.toNat * x.n.toNat ≤ 67 * 32 := Nat.mul_le_mul (by omega) (by omega)
      have hE : wonE x seed m (wsigV x sk seed m ws) = 0 := by rw [wonE, if_pos e2, if_pos (by rw [lS, hmul])]
      have hV : wonV x seed m (wsigV x sk seed m ws) ws = wpubV x sk seed ws := by rw [wonV, if_pos hE, S, P]; exact on_sign hx sk seed m ws hd2
      refine Fun_cc _ mo Tryd.func13 (by decide) cc13 rs13 Tryd.ntmps13 (by simp) (AW_run hct 1000 ?_)
      simp (maxSteps := 10000000) (disch := omega) only [go_sem, c13, mark, ctWlive, ctFew, ctWSign, ctWPublic, wonA, ctEqual, hbb, hf, hw, hwt, h, e1, hE, hV, lS, lP, hmul, deL_cons, deL_nil, reduceIte, seval, -BitVec.isValue, -BitVec.reduceOfNat, -List.reduceReplicate]
      try simp
    · have S : wsigV x sk seed m ws = [] := by rw [wsigV, if_neg h]
      obtain ⟨e, he⟩ : ∃ e, e = wmayE x [sk, seed, m] := ⟨_, rfl⟩
      rw [← he] at h
      refine Fun_cc _ mo Tryd.func13 (by decide) cc13 rs13 Tryd.ntmps13 (by simp) (AW_run hct 1000 ?_)
      simp (maxSteps := 10000000) (disch := omega) only [go_sem, c13, mark, ctWlive, ctFew, ctWSign, ctWPublic, wonA, ctEqual, hbb, hf, hw, hwt, ← he, eq_false h, S, deL_cons, deL_nil, reduceIte, seval, -BitVec.isValue, -BitVec.reduceOfNat, -List.reduceReplicate]
      try simp
  · have hct := mark_ok 23 (ctWlive_ok (ctFew_ok (CtOK_nil (P := Tryd.prog) (Gl := Gs))))
    refine Fun_cc _ mo Tryd.func13 (by decide) cc13 rs13 Tryd.ntmps13 (by simp) (AW_run hct 1000 ?_)
    simp (maxSteps := 10000000) (disch := omega) only [go_sem, c13, mark, ctWlive, ctFew, hbb, hf, hw, deL_cons, deL_nil, reduceIte, seval, -BitVec.isValue, -BitVec.reduceOfNat, -List.reduceReplicate]
    try simp
end Go.Lv
