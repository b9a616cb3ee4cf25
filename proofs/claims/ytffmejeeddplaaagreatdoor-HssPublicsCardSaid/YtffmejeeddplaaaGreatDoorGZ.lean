/- A part of the proof (GZ). -/
import Derived.Test.YtffmejeeddplaaaGreatDoorGS
import Derived.Test.YtffmejeeddplaaaGreatDoorGT
import Derived.Test.YtffmejeeddplaaaGreatDoorGW
import Derived.Test.YtffmejeeddplaaaGreatDoorGU
import Derived.Test.YtffmejeeddplaaaGreatDoorGK
import Derived.Test.YtffmejeeddplaaaGreatDoorFE
set_option linter.all false
namespace Go.Lv
open Go Go.Proofs
set_option linter.unusedSimpArgs false
set_option maxRecDepth 100000
def hsumS (sh : Bool) (n : Nat) (t : List (BitVec 8)) : List (BitVec 8) := if sh then shakeS 256 n t else (sha256S t).take n
theorem hsumS_len (sh : Bool) (n : Nat) (t : List (BitVec 8)) (hn : n ≤ 32) : (hsumS sh n t).length = n := by
  unfold hsumS
  split
  · exact shakeS_len _ _ _
  · rw [List.length_take, sha256S_len]; omega
def hO (o : Ots) (t : List (BitVec 8)) : List (BitVec 8) := hsumS o.shake o.n.toNat t
theorem hO_len {o : Ots} (ho : OtsOK o) (t : List (BitVec 8)) : ((hO o t).length : Int) = o.n := by
  have := ho.n
  rw [hO, hsumS_len _ _ _ (by omega)]; omega
def HashR (o : Ots) (t : List (BitVec 8)) : AV := if otsT o.code = some o then Enc.ret (hO o t) else .ros true 0 []
set_option maxHeartbeats 1000000 in
theorem Hash_fun (o : Ots) (ps : List (List (BitVec 8))) (hp : bbOK ps) (hl : ps.flatten.length ≤ 4611686018427387904) : Fun Tryz.prog Gs 209 [Enc.enc o, Enc.enc ps] (HashR o ps.flatten) := by
  refine Fun_cc [ctMay, ctShake, ctSum256] mo Tryz.func209 (by decide) cc209 rs209 Tryz.ntmps209 (by simp) ?_
  have hct := ctMay_ok (ctShake_ok (ctSum256_ok CtOK_nil))
  obtain ⟨oc, sh, on, ow, op, ol⟩ := o
  by_cases h : otsT oc = some ⟨oc, sh, on, ow, op, ol⟩
  · have hn := (otsT_ok h).n
    obtain ⟨n, hn'⟩ := Int.eq_ofNat_of_zero_le (show 0 ≤ on by simp only at hn; omega)
    simp only at hn
    have h1 : ¬ on < 0 := by omega
    have h2 : ¬ (1048576 < on) := by omega
    have hsl := sha256S_len ps.flatten
    have hst : (sha256S ps.flatten).take 32 = sha256S ps.flatten := List.take_of_length_le (by omega)
    have hR : HashR ⟨oc, sh, on, ow, op, ol⟩ ps.flatten = Enc.ret (hsumS sh n ps.flatten) := by rw [HashR, if_pos h, hO]; simp only [hn', Int.toNat_natCast]
    have hnn : on.toNat = n := by omega
    have hln := hsumS_len sh n ps.flatten (by omega)
    rw [hR]
    refine AW_run hct 1000 ?_
    cases sh
    · have hif : hsumS false n ps.flatten = (sha256S ps.flatten).take n := rfl
      rw [hif] at hln
      simp (maxSteps := 10000000) (disch := omega) only [go_sem, c209, ctMay, ctShake, ctSum256, otsMay, h, hp, hl, hsl, hst, hnn, z32b, hif, hln, reduceIte, seval, -BitVec.isValue, -BitVec.reduceOfNat, -List.reduceReplicate]
      have hz : List.drop 32 (List.replicate 32 (0 : BitVec 8)) = [] := rfl
      try rw [Nat.sub_zero, hz, List.append_nil]
    · have hif : hsumS true n ps.flatten = shakeS 256 n ps.flatten := rfl
      rw [hif] at hln
      simp (maxSteps := 10000000) (disch := omega) only [go_sem, c209, ctMay, ctShake, ctSum256, otsMay, h, hp, ShakeR, h1, h2, hnn, hif, hln, reduceIte, seval, -BitVec.isValue, -BitVec.reduceOfNat, -List.reduceReplicate]
  · have hR : HashR ⟨oc, sh, on, ow, op, ol⟩ ps.flatten = .ros true 0 [] := by rw [HashR, if_neg h]
    rw [hR]
    refine AW_run hct 1000 ?_
    simp (maxSteps := 10000000) (disch := omega) only [go_sem, c209, ctMay, ctShake, ctSum256, otsMay, h, reduceIte, seval, -BitVec.isValue, -BitVec.reduceOfNat, -List.reduceReplicate]
def ctHash : Nat × (List AV → R) := (209, A2 fun (o : Ots) (ps : List (List (BitVec 8))) => (bbOK ps ∧ ps.flatten.length ≤ 4611686018427387904, HashR o ps.flatten))
theorem ctHash_ok {Ct : List (Nat × (List AV → R))} (h : CtOK Tryz.prog Gs Ct) : CtOK Tryz.prog Gs (ctHash :: Ct) := CtOK_cons (Row2 fun o ps h => Hash_fun o ps h.1 h.2) h
theorem RSum_fun (sh : Bool) (n : Int) (t : List (BitVec 8)) (hn : 0 ≤ n ∧ n ≤ 32) (ht : t.length ≤ 1000000000) : Fun Tryz.prog Gs 208 [Enc.enc sh, Enc.enc n, Enc.enc t] (Enc.ret (hsumS sh n.toNat t)) := by
  refine Fun_cc [ctRShake, ctRSum256] mo Tryz.func208 (by decide) cc208 rs208 Tryz.ntmps208 (by simp) ?_
  have hct := ctRShake_ok (ctRSum256_ok CtOK_nil)
  refine AW_run hct 1000 ?_
  have hsl := sha256S_len t
  obtain ⟨h1, h2⟩ := hn
  obtain ⟨n, rfl⟩ := Int.eq_ofNat_of_zero_le h1
  cases sh
  · simp (maxSteps := 10000000) (disch := omega) only [go_sem, c208, ctRShake, ctRSum256, hsl, reduceIte, seval, -BitVec.isValue, -BitVec.reduceOfNat, -List.reduceReplicate]
    simp [hsumS, ret_l, sha256S_len]
    omega
  · simp (maxSteps := 10000000) (disch := omega) only [go_sem, c208, ctRShake, ctRSum256, reduceIte, seval, -BitVec.isValue, -BitVec.reduceOfNat, -List.reduceReplicate]
    simp [hsumS, ret_l]
def ctRSum : Nat × (List AV → R) := (208, A3 fun (sh : Bool) (n : Int) (t : List (BitVec 8)) => (0 ≤ n ∧ n ≤ 32 ∧ t.length ≤ 1000000000, Enc.ret (hsumS sh n.toNat t)))
theorem ctRSum_ok {Ct : List (Nat × (List AV → R))} (h : CtOK Tryz.prog Gs Ct) : CtOK Tryz.prog Gs (ctRSum :: Ct) := CtOK_cons (Row3 fun sh n t h => RSum_fun sh n t ⟨h.1, h.2.1⟩ h.2.2) h
end Go.Lv
namespace Go.Lv
open Go Go.Proofs
set_option linter.unusedSimpArgs false
set_option maxRecDepth 100000
def σoj1 (ps : List (List (BitVec 8))) (k : Nat) : St := ⟨[(0, Enc.enc ps), (3, .i (ps.take k).flatten.length), (9, Enc.enc ps), (10, .i ps.length), (11, .i k)], [], 0⟩
def σoj2 (ps : List (List (BitVec 8))) (k : Nat) : St := ⟨[(6, .sl 0 0 (ps.take k).flatten.length 1), (22, Enc.enc ps), (23, .i ps.length), (24, .i k)], [(0, ⟨(ps.take k).flatten.map .u8, true⟩)], 1⟩
set_option maxHeartbeats 1000000 in
theorem OJoin_funG (ps : List (List (BitVec 8))) (h0 : ps.length ≤ 140737488351232) (h : ps.flatten.length ≤ 140737488351232) : FunG Tryz.prog Gs 85 [Enc.enc ps] [] (.sl 0 0 ps.flatten.length 1) [(0, ⟨ps.flatten.map .u8, true⟩)] := by
  refine FunG_cc [] [] 0 mo Tryz.func85 (by decide) cc85 rs85 Tryz.ntmps85 (by simp) rfl (by simp) rfl ?_
  refine AW_run CtOK_nil 1000 ?_
  simp (maxSteps := 10000000) (disch := omega) only [go_sem, c85, reduceIte, seval, -BitVec.isValue, -BitVec.reduceOfNat, -List.reduceReplicate]
  refine AW_loop (σoj1 ps) (fun k => k ≤ ps.length) (fun k => ps.length - k) 0 (Nat.zero_le _) (Wk_d [] (by simp) ?_) fun k hk => ?_
  · simp only [go_sem, σoj1, reduceIte, seval, -BitVec.isValue, -BitVec.reduceOfNat, -List.reduceReplicate]
    try simp
  · refine AW_run CtOK_nil 1000 ?_
    by_cases hd : k < ps.length
    · have hd' : (k : Int) < ps.length := by omega
      have hf := flat_at ps k hd
      have hle := flat_le ps (k + 1)
      have hl := congrArg List.length hf
      rw [List.length_append] at hl
      have e1 : (((ps.take k).flatten.length : Int) + (ps.getD k []).length) = ((ps.take (k + 1)).flatten.length : Nat) := by omega
      simp (maxSteps := 10000000) (disch := omega) only [go_sem, σoj1, hd', reduceIte, seval, -BitVec.isValue, -BitVec.reduceOfNat, -List.reduceReplicate]
      refine ⟨k + 1, by omega, Wk_d [] (by simp) ?_, by omega⟩
      simp only [go_sem, e1, reduceIte, seval, -BitVec.isValue, -BitVec.reduceOfNat, -List.reduceReplicate]
      try simp
    · have hge : k = ps.length := by omega
      subst hge
      have hd' : ¬ ((ps.length : Int) < ps.length) := by omega
      simp (maxSteps := 10000000) (disch := omega) only [go_sem, σoj1, hd', List.take_length, reduceIte, seval, -BitVec.isValue, -BitVec.reduceOfNat, -List.reduceReplicate]
      refine AW_loop (σoj2 ps) (fun k => k ≤ ps.length) (fun k => ps.length - k) 0 (Nat.zero_le _) (Wk_d [] (by simp) ?_) fun k hk => ?_
      · simp only [go_sem, σoj2, reduceIte, seval, -BitVec.isValue, -BitVec.reduceOfNat, -List.reduceReplicate]
        try simp
      · refine AW_run CtOK_nil 1000 ?_
        by_cases hd : k < ps.length
        · have hd' : (k : Int) < ps.length := by omega
          have hf := flat_at ps k hd
          have hle := flat_le ps (k + 1)
          have hl := congrArg List.length hf
          rw [List.length_append] at hl
          simp (maxSteps := 10000000) (disch := omega) only [go_sem, σoj2, hd', reduceIte, seval, -BitVec.isValue, -BitVec.reduceOfNat, -List.reduceReplicate]
          refine ⟨k + 1, by omega, Wk_d [(0, 1)] (by simp) ?_, by omega⟩
          simp only [go_sem, reduceIte, seval, -BitVec.isValue, -BitVec.reduceOfNat, -List.reduceReplicate]
          simp [hf]
        · have hge : k = ps.length := by omega
          subst hge
          have hd' : ¬ ((ps.length : Int) < ps.length) := by omega
          simp (maxSteps := 10000000) (disch := omega) only [go_sem, σoj2, hd', List.take_length, reduceIte, seval, -BitVec.isValue, -BitVec.reduceOfNat, -List.reduceReplicate]
          try simp
theorem OJoin_fun (ps : List (List (BitVec 8))) (h0 : ps.length ≤ 140737488351232) (h : ps.flatten.length ≤ 140737488351232) : Fun Tryz.prog Gs 85 [Enc.enc ps] (Enc.ret ps.flatten) :=
  Fun_of_FunG (OJoin_funG ps h0 h) (by simp only [go_sem, reduceIte, seval, -BitVec.isValue, -BitVec.reduceOfNat, -List.reduceReplicate])
def ctOJoin : Nat × (List AV → R) := (85, A1 fun ps : List (List (BitVec 8)) => (ps.length ≤ 140737488351232 ∧ ps.flatten.length ≤ 140737488351232, Enc.ret ps.flatten))
theorem ctOJoin_ok {Ct : List (Nat × (List AV → R))} (h : CtOK Tryz.prog Gs Ct) : CtOK Tryz.prog Gs (ctOJoin :: Ct) := CtOK_cons (Row1 fun ps h => OJoin_fun ps h.1 h.2) h
def hdS (id : List (BitVec 8)) (q : BitVec 32) : List (BitVec 8) := id ++ bigL (q.setWidth 64) 4
theorem at_fun (o : Ots) (id : List (BitVec 8)) (q : BitVec 32) (hid : id.length = 16) : Fun Tryz.prog Gs 195 [Enc.enc o, Enc.enc (⟨id⟩ : Ar (BitVec 8)), Enc.enc q] (Enc.ret (⟨o, hdS id q⟩ : Lf)) := by
  refine Fun_cc [] mo Tryz.func195 (by decide) cc195 rs195 Tryz.ntmps195 (by simp) ?_
  have hct := mark_ok 11 (ctU32_ok (ctOJoin_ok CtOK_nil))
  refine AW_run CtOK_nil 2 ?_
  simp (maxSteps := 10000000) (disch := omega) only [go_sem, c195, hid, reduceIte, seval, -BitVec.isValue, -BitVec.reduceOfNat, -List.reduceReplicate]
  refine AW_freeze 1 [4] (seg := ⟨id.map .u8, true⟩) (by simp only [go_sem, reduceIte, seval, -BitVec.isValue, -BitVec.reduceOfNat, -List.reduceReplicate]) rfl (AW_ct [mark 11, ctU32, ctOJoin] (AW_run hct 1000 ?_))
  have hf : [id, bigL (q.setWidth 64) 4].flatten = hdS id q := by simp [hdS]
  have hbl := bigL_len (q.setWidth 64) 4
  have hdl : (hdS id q).length = 20 := by simp [hdS, hid, hbl]
  have hit : id.take 16 = id := List.take_of_length_le (by omega)
  simp (maxSteps := 10000000) (disch := omega) only [go_sem, frzF, hid, mark, ctU32, ctOJoin, hf, hbl, hit, hdl, deL_cons, deL_nil, reduceIte, seval, -BitVec.isValue, -BitVec.reduceOfNat, -List.reduceReplicate]
  try simp
def ctAt : Nat × (List AV → R) := (195, A3 fun (o : Ots) (id : Ar (BitVec 8)) (q : BitVec 32) => (id.l.length = 16, Enc.ret (⟨o, hdS id.l q⟩ : Lf)))
theorem ctAt_ok {Ct : List (Nat × (List AV → R))} (h : CtOK Tryz.prog Gs Ct) : CtOK Tryz.prog Gs (ctAt :: Ct) := CtOK_cons (Row3 fun o id q h => at_fun o id.l q h) h
def leOK (l : Lf) : Prop := otsT l.o.code = some l.o ∧ l.hd.length ≤ 1000
theorem hR {o : Ots} (h : otsT o.code = some o) (t : List (BitVec 8)) : HashR o t = Enc.ret (hO o t) := by rw [HashR, if_pos h]
theorem bb4 (a b c d : List (BitVec 8)) (ha : a.length ≤ 140737488351232) (hb : b.length ≤ 140737488351232) (hc : c.length ≤ 140737488351232) (hd : d.length ≤ 140737488351232) : bbOK [a, b, c, d] := by
  refine ⟨by simp, fun x hx => ?_⟩
  simp only [List.mem_cons, List.not_mem_nil, or_false] at hx
  rcases hx with rfl | rfl | rfl | rfl <;> assumption
theorem bb3 (a b c : List (BitVec 8)) (ha : a.length ≤ 140737488351232) (hb : b.length ≤ 140737488351232) (hc : c.length ≤ 140737488351232) : bbOK [a, b, c] := by
  refine ⟨by simp, fun x hx => ?_⟩
  simp only [List.mem_cons, List.not_mem_nil, or_false] at hx
  rcases hx with rfl | rfl | rfl <;> assumption
theorem u16_of (i : Nat) (h : i < 65536) : (BitVec.ofInt 16 (i : Int)).setWidth 64 = BitVec.ofNat 64 i := by
  apply BitVec.eq_of_toNat_eq
  simp
  omega
theorem preS_len (hd : List (BitVec 8)) (i : Nat) : (preS hd i).length = hd.length + 2 := by simp [preS, bigL_len]
set_option maxHeartbeats 1000000 in
theorem sec_fun (l : Lf) (i : Nat) (seed : List (BitVec 8)) (hl : leOK l) (hi : i < 65536) (hs : seed.length ≤ 140737488351232) : Fun Tryz.prog Gs 212 [Enc.enc l, Enc.enc (i : Int), Enc.enc seed] (Enc.ret (secS (hO l.o) l.hd seed i)) := by
  refine Fun_cc [mark 14, mark 16, ctU16, ctHash] mo Tryz.func212 (by decide) cc212 rs212 Tryz.ntmps212 (by simp) ?_
  have hct := mark_ok 14 (mark_ok 16 (ctU16_ok (ctHash_ok CtOK_nil)))
  obtain ⟨o, hd⟩ := l
  obtain ⟨h1, h2⟩ := hl
  simp only at h1 h2
  have hu := u16_of i hi
  have hbl := bigL_len (BitVec.ofNat 64 i) 2
  have hbb := bb4 hd (bigL (BitVec.ofNat 64 i) 2) [255] seed (by omega) (by omega) (by simp) hs
  have hfl : [hd, bigL (BitVec.ofNat 64 i) 2, [255], seed].flatten = preS hd i ++ [255#8] ++ seed := by simp [preS]
  have hpl := preS_len hd i
  have hsec : secS (hO o) hd seed i = hO o (preS hd i ++ [255#8] ++ seed) := rfl
  refine AW_run hct 1000 ?_
  simp (maxSteps := 10000000) (disch := omega) only [go_sem, c212, mark, ctU16, ctHash, hu, hbl, hbb, hfl, hpl, hR h1, hsec, deL_cons, deL_nil, reduceIte, seval, -BitVec.isValue, -BitVec.reduceOfNat, -List.reduceReplicate]
def ctSec : Nat × (List AV → R) := (212, A3 fun (l : Lf) (i : Int) (seed : List (BitVec 8)) => (leOK l ∧ 0 ≤ i ∧ i < 65536 ∧ seed.length ≤ 140737488351232, Enc.ret (secS (hO l.o) l.hd seed i.toNat)))
theorem ctSec_ok {Ct : List (Nat × (List AV → R))} (h : CtOK Tryz.prog Gs Ct) : CtOK Tryz.prog Gs (ctSec :: Ct) := CtOK_cons (Row3 fun l i seed h => by
  obtain ⟨h1, h2, h3, h4⟩ := h
  obtain ⟨i, rfl⟩ := Int.eq_ofNat_of_zero_le h2
  exact sec_fun l i seed h1 (by omega) h4) h
set_option maxHeartbeats 1000000 in
theorem shut_fun (l : Lf) (e : List (BitVec 8)) (hl : leOK l) (hs : e.length ≤ 140737488351232) : Fun Tryz.prog Gs 199 [Enc.enc l, Enc.enc e] (Enc.ret (shutS (hO l.o) l.hd e)) := by
  refine Fun_cc [mark 11, ctU16, ctHash] mo Tryz.func199 (by decide) cc199 rs199 Tryz.ntmps199 (by simp) ?_
  have hct := mark_ok 11 (ctU16_ok (ctHash_ok CtOK_nil))
  obtain ⟨o, hd⟩ := l
  obtain ⟨h1, h2⟩ := hl
  simp only at h1 h2
  have hbl := bigL_len (0x8080#64) 2
  have hbb := bb3 hd (bigL 0x8080#64 2) e (by omega) (by omega) hs
  have hfl : [hd, bigL 0x8080#64 2, e].flatten = hd ++ bigL 0x8080#64 2 ++ e := by simp
  have hsh : shutS (hO o) hd e = hO o (hd ++ bigL 0x8080#64 2 ++ e) := rfl
  refine AW_run hct 1000 ?_
  simp (maxSteps := 10000000) (disch := omega) only [go_sem, c199, mark, ctU16, ctHash, hbl, hbb, hfl, hR h1, hsh, deL_cons, deL_nil, reduceIte, seval, -BitVec.isValue, -BitVec.reduceOfNat, -List.reduceReplicate]
def ctShut : Nat × (List AV → R) := (199, A2 fun (l : Lf) (e : List (BitVec 8)) => (leOK l ∧ e.length ≤ 140737488351232, Enc.ret (shutS (hO l.o) l.hd e)))
theorem ctShut_ok {Ct : List (Nat × (List AV → R))} (h : CtOK Tryz.prog Gs Ct) : CtOK Tryz.prog Gs (ctShut :: Ct) := CtOK_cons (Row2 fun l e h => shut_fun l e h.1 h.2) h
def roB (b : Bool) (x : By) : AV := .ros b x.length (x.map .u8)
@[go_sem] theorem roB_eq (b : Bool) (x : By) : roB b x = .ros b x.length (x.map .u8) := rfl
def σgo (l : Lf) (i f t : Nat) (x : By) (j : Nat) : St := ⟨[(1, .i i), (3, .i t), (4, roB (j != 0) (chn (hO l.o) (preS l.hd i) f j x)), (5, .ptr 0 0), (11, .i ((f + j : Nat) : Int))], [(0, ⟨[.u32 l.o.code, .b l.o.shake, .i l.o.n, .i l.o.w, .i l.o.p, .i l.o.ls, Enc.enc l.hd], true⟩)], 1⟩
set_option maxHeartbeats 2000000 in
theorem goes_fun (l : Lf) (i f k : Nat) (x : List (BitVec 8)) (hl : leOK l) (hi : i < 65536) (hx : x.length ≤ 1000000) (hf : f + k ≤ 255) : Fun Tryz.prog Gs 197 [Enc.enc l, Enc.enc (i : Int), Enc.enc (f : Int), Enc.enc ((f + k : Nat) : Int), Enc.enc x] (roB (k != 0) (chn (hO l.o) (preS l.hd i) f k x)) := by
  refine Fun_cc [mark 27, mark 29, ctU16, ctHash] mo Tryz.func197 (by decide) cc197 rs197 Tryz.ntmps197 (by simp) ?_
  have hct := mark_ok 27 (mark_ok 29 (ctU16_ok (ctHash_ok CtOK_nil)))
  obtain ⟨o, hd⟩ := l
  obtain ⟨h1, h2⟩ := hl
  simp only at h1 h2
  have hu := u16_of i hi
  have hpl := preS_len hd i
  have hbl := bigL_len (BitVec.ofNat 64 i) 2
  have hn := (otsT_ok h1).n
  refine AW_run hct 1000 ?_
  simp (maxSteps := 10000000) (disch := omega) only [go_sem, c197, mark, ctU16, ctHash, reduceIte, seval, -BitVec.isValue, -BitVec.reduceOfNat, -List.reduceReplicate]
  refine AW_loop (σgo ⟨o, hd⟩ i f (f + k) x) (fun j => j ≤ k) (fun j => k - j) 0 (Nat.zero_le _) (Wk_p [] ?_) fun j hj => ?_
  · simp only [go_sem, σgo, chn, bne_self_eq_false, reduceIte, seval, -BitVec.isValue, -BitVec.reduceOfNat, -List.reduceReplicate]
    try simp
  · refine AW_ct [mark 27, mark 29, ctU16, ctHash] (AW_run hct 1000 ?_)
    have hcl : (chn (hO o) (preS hd i) f j x).length ≤ 1000000 := by
      cases j with
      | zero => exact hx
      | succ j => rw [chn_succ]; have := hO_len (otsT_ok h1) (preS hd i ++ [BitVec.ofNat 8 (f + j)] ++ chn (hO o) (preS hd i) f j x); omega
    have hcs := chn_succ (hO o) (preS hd i) f j x
    obtain ⟨y, hy⟩ : ∃ y, y = chn (hO o) (preS hd i) f j x := ⟨_, rfl⟩
    rw [← hy] at hcl hcs
    by_cases hd' : j < k
    · have hlt : ((f + j : Nat) : Int) < ((f + k : Nat) : Int) := by omega
      have h8 : BitVec.ofInt 8 ((f + j : Nat) : Int) = BitVec.ofNat 8 (f + j) := BitVec.ofInt_natCast 8 (f + j)
      have hbb := bb4 hd (bigL (BitVec.ofNat 64 i) 2) [BitVec.ofNat 8 (f + j)] y (by omega) (by omega) (by simp) (by omega)
      have hfl : [hd, bigL (BitVec.ofNat 64 i) 2, [BitVec.ofNat 8 (f + j)], y].flatten = preS hd i ++ [BitVec.ofNat 8 (f + j)] ++ y := by simp [preS]
      simp (maxSteps := 10000000) (disch := omega) only [go_sem, σgo, ← hy, hlt, h8, hu, hbl, hbb, hfl, hpl, hR h1, ← hcs, mark, ctU16, ctHash, deL_cons, deL_nil, reduceIte, seval, -BitVec.isValue, -BitVec.reduceOfNat, -List.reduceReplicate]
      refine ⟨j + 1, by omega, Wk_p [] ?_, by omega⟩
      have e1 : ((f + j : Nat) : Int) + 1 = ((f + (j + 1) : Nat) : Int) := by omega
      have e2 : (j + 1 != 0) = true := by simp
      simp only [go_sem, σgo, e1, e2, reduceIte, seval, -BitVec.isValue, -BitVec.reduceOfNat, -List.reduceReplicate]
      try simp
    · have hge : j = k := by omega
      subst hge
      have hlt : ¬ ((f + j : Nat) : Int) < ((f + j : Nat) : Int) := by omega
      simp (maxSteps := 10000000) (disch := omega) only [go_sem, σgo, ← hy, hlt, mark, ctU16, ctHash, reduceIte, seval, -BitVec.isValue, -BitVec.reduceOfNat, -List.reduceReplicate]
      try simp
def ctGoes : Nat × (List AV → R) := (197, A5 fun (l : Lf) (i f t : Int) (x : List (BitVec 8)) => (leOK l ∧ 0 ≤ i ∧ i < 65536 ∧ x.length ≤ 1000000 ∧ 0 ≤ f ∧ f ≤ t ∧ t ≤ 255, roB ((t - f).toNat != 0) (chn (hO l.o) (preS l.hd i.toNat) f.toNat (t - f).toNat x)))
theorem ctGoes_ok {Ct : List (Nat × (List AV → R))} (h : CtOK Tryz.prog Gs Ct) : CtOK Tryz.prog Gs (ctGoes :: Ct) := CtOK_cons (Row5 fun l i f t x h => by
  obtain ⟨h1, h2, h3, h4, h5, h6, h7⟩ := h
  obtain ⟨i, rfl⟩ := Int.eq_ofNat_of_zero_le h2
  obtain ⟨f, rfl⟩ := Int.eq_ofNat_of_zero_le h5
  obtain ⟨k, hk⟩ := Int.eq_ofNat_of_zero_le (show 0 ≤ t - f by omega)
  have ht : t = ((f + k : Nat) : Int) := by omega
  have := goes_fun l i f k x h1 (by omega) h4 (by omega)
  rw [ht, show (((f + k : Nat) : Int) - (f : Int)).toNat = k by omega]
  exact this) h
end Go.Lv
