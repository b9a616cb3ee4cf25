/- A part of the proof. -/
import Derived.Test.YtjenbilhieomoaaDoorFD
import Derived.Test.YtjenbilhieomoaaDoorGL
import Derived.Test.YtjenbilhieomoaaDoorGK
set_option linter.all false
namespace Go.Lv
open Go Go.Proofs
set_option linter.unusedSimpArgs false
set_option maxRecDepth 100000

/-! ## Law: what was signed is right -/
set_option maxHeartbeats 8000000 in
theorem LOwn_fun (k : Leaf) (msg : By) (hk : k.ok) (hm : msg.length ≤ 140737488351232) : Fun Tryd.prog Gs 3 [.agg k.c, Enc.enc msg] (.b true) := by
  have hid := hk.id
  have hit : k.id.take 16 = k.id := List.take_of_length_le (by omega)
  have ho := setS_ok k.code
  obtain ⟨o, hoo⟩ : ∃ o, o = setS k.code := ⟨_, rfl⟩
  rw [← hoo] at ho
  have hct := mark_ok 58 (mark_ok 61 (ctLive_ok (ctSet_ok (ctLSign_ok (ctRMayOts_ok (ctJoin_ok (ctLPublic_ok (ctLCand_ok (ctEqual_ok (ctROtsLen_ok (CtOK_nil (P := Tryd.prog) (Gl := Gs))))))))))))
  refine Fun_cc [mark 58, mark 61, ctLive, ctSet, ctLSign, ctRMayOts, ctJoin, ctLPublic, ctLCand, ctEqual, ctOtsLen 14] mo Tryd.func3 (by decide) cc3 rs3 Tryd.ntmps3 (by simp) ?_
  by_cases hm3 : msg.length ≤ 3000
  · have hm' : ¬ (3000 : Int) < msg.length := by omega
    by_cases h : rMay o k.seed = 0
    · obtain ⟨hot, hsl⟩ := rMay_0 h
      have hS : SignR o k.id k.q k.seed msg = .tup [Enc.ret (sigO o (hdS k.id k.q) k.seed msg), .i 0] := by rw [SignR, if_pos h]
      have hP : PubR o k.id k.q k.seed = .tup [Enc.ret (lpubO o k.id k.q k.seed), .i 0] := by rw [PubR, if_pos h]
      obtain ⟨c1, c2⟩ := cn_own hot (hdS k.id k.q) k.seed msg
      have hC : CandR o k.id k.q msg (sigO o (hdS k.id k.q) k.seed msg) = .tup [Enc.ret (lpubO o k.id k.q k.seed), .i 0] := by rw [CandR, if_pos c1, c2]; rfl
      have hsO := sigO_len hot (hdS k.id k.q) k.seed msg
      have hpO := lpubO_len ho k.id k.q k.seed
      obtain ⟨S, hSS⟩ : ∃ S, S = sigO o (hdS k.id k.q) k.seed msg := ⟨_, rfl⟩
      rw [← hSS] at hS hC hsO
      have hsm := otsSm_of ho
      have hl := otsLen_sm o hsm
      have hn := ho.n
      have f1 : [k.seed].flatten = k.seed := by simp
      have f2 : [msg].flatten = msg := by simp
      have hE : decide (lpubO o k.id k.q k.seed = lpubO o k.id k.q k.seed) = true := by simp
      have hbb1 : bbOK [k.seed] := by simp [bbOK]; omega
      refine AW_run hct 37 ?_
      simp (maxSteps := 10000000) (disch := omega) only [go_sem, c3, mark, ctLive, ctSet, ctLSign, Lc_len hid, Lc_0, Lc_1 hid, Lc_17 hid, Lc_18 hid, ← hoo, hid, hit, hS, eq_false hm', reduceIte, seval, -BitVec.isValue, -BitVec.reduceOfNat, -List.reduceReplicate]
      refine AW_ct [mark 58, mark 61, ctLive, ctSet, ctLSign, ctRMayOts, ctJoin, ctLPublic, ctLCand, ctEqual, ctOtsLen 14] (AW_drx hct [(1, ⟨[.u32 o.code, .b o.shake, .i o.n, .i o.w, .i o.p, .i o.ls], true⟩), (0, ⟨k.c, true⟩)] (by rfl) (by simp only [go_sem, reduceIte, seval, -BitVec.isValue, -BitVec.reduceOfNat, -List.reduceReplicate]) ?_)
      simp (maxSteps := 10000000) (disch := omega) only [go_sem, mark, ctLive, ctSet, ctLSign, ctRMayOts, ctJoin, ctLPublic, ctLCand, ctEqual, ctOtsLen, Nat.beq_refl, beq_self_eq_true, Lc_len hid, Lc_0, Lc_1 hid, Lc_17 hid, Lc_18 hid, hid, hit, hS, f1, f2, deL_cons, deL_nil, reduceIte, seval, -BitVec.isValue, -BitVec.reduceOfNat, -List.reduceReplicate]
      refine ⟨fun _ => trivial, fun _ => trivial, ?_⟩
      refine AW_ct [mark 58, mark 61, ctLive, ctSet, ctLSign, ctRMayOts, ctJoin, ctLPublic, ctLCand, ctEqual, ctOtsLen 14] (AW_run hct 1000 ?_)
      simp (maxSteps := 10000000) (disch := omega) only [go_sem, mark, ctLive, ctSet, ctLSign, ctRMayOts, ctJoin, ctLPublic, ctLCand, ctEqual, ctOtsLen, Lc_len hid, Lc_0, Lc_1 hid, Lc_17 hid, Lc_18 hid, hid, hit, hS, hP, hC, hsm, hpO, hsO, decide_true, reduceIte, seval, -BitVec.isValue, -BitVec.reduceOfNat, -List.reduceReplicate]
      try simp
    · have hS : SignR o k.id k.q k.seed msg = nilE (rMay o k.seed) := by rw [SignR, if_neg h]
      by_cases ho1 : otsT o.code = some o
      · have hl : ¬ (k.seed.length : Int) = o.n := fun e => h (by rw [rMay, if_pos ho1, if_pos e])
        obtain ⟨e, he⟩ : ∃ e, e = rMay o k.seed := ⟨_, rfl⟩
        rw [← he] at h hS
        refine AW_run hct 1000 ?_
        simp (maxSteps := 10000000) (disch := omega) only [go_sem, c3, mark, ctLive, ctSet, ctLSign, ctRMayOts, Lc_len hid, Lc_0, Lc_1 hid, Lc_17 hid, Lc_18 hid, ← hoo, hid, hit, hS, nilE, eq_false h, eq_true ho1, decide_true, eq_false hl, eq_false hm', reduceIte, seval, -BitVec.isValue, -BitVec.reduceOfNat, -List.reduceReplicate]
        try simp
      · obtain ⟨e, he⟩ : ∃ e, e = rMay o k.seed := ⟨_, rfl⟩
        rw [← he] at h hS
        refine AW_run hct 1000 ?_
        simp (maxSteps := 10000000) (disch := omega) only [go_sem, c3, mark, ctLive, ctSet, ctLSign, ctRMayOts, Lc_len hid, Lc_0, Lc_1 hid, Lc_17 hid, Lc_18 hid, ← hoo, hid, hit, hS, nilE, eq_false h, eq_false ho1, decide_false, eq_false hm', reduceIte, seval, -BitVec.isValue, -BitVec.reduceOfNat, -List.reduceReplicate]
        try simp
  · have hm' : (3000 : Int) < msg.length := by omega
    refine AW_run hct 1000 ?_
    simp (maxSteps := 10000000) (disch := omega) only [go_sem, c3, mark, ctLive, ctSet, eq_true hm', reduceIte, seval, -BitVec.isValue, -BitVec.reduceOfNat, -List.reduceReplicate]
    try simp
end Go.Lv
