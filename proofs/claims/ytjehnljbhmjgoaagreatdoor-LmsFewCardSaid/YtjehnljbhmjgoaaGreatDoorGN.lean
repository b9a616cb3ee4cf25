/- A part of the proof (GN). -/
import Derived.Test.YtjehnljbhmjgoaaGreatDoorGM
import Derived.Test.YtjehnljbhmjgoaaGreatDoorGK
import Derived.Test.YtjehnljbhmjgoaaGreatDoorGL
import Derived.Test.YtjehnljbhmjgoaaGreatDoorFH
set_option linter.all false
namespace Go.Lv
open Go Go.Proofs
set_option linter.unusedSimpArgs false
set_option maxRecDepth 100000
theorem atE_ok {l : Lms} {o : Ots} {id seed : By} {q : BitVec 32} (h : atE l o seed q = 0) (hid : id.length = 16) : mdE l o seed = 0 ∧ LKok ⟨l, o, id, seed⟩ ∧ q.toNat < 2 ^ l.h.toNat := by
  unfold atE at h
  split at h
  · rename_i h1
    have hk := mdE_ok h1 hid
    have hs := hk.sm
    split at h
    · cases h
    · rename_i h2
      rw [pw_le (by simp only at hs; omega)] at h2
      exact ⟨h1, hk, by omega⟩
  · rename_i h1; exact absurd h h1
theorem mdK_0 {l : Lms} {o : Ots} {id seed : By} (h : mdE l o seed = 0) : mdK l o id seed = .agg (lkR ⟨l, o, id, seed⟩) := by rw [mdK, if_pos h]
theorem mdK_1 {l : Lms} {o : Ots} {id seed : By} (h : ¬ mdE l o seed = 0) : mdK l o id seed = .agg zk := by rw [mdK, if_neg h]
def leafR (l : Lms) (o : Ots) (id seed : By) (q : BitVec 32) : AV := if atE l o seed q = 0 then .tup [Enc.ret (lnode ⟨l, o, id, seed⟩ 0 q.toNat), .i 0] else nilE (atE l o seed q)
set_option maxHeartbeats 2000000 in
theorem lLeaf_fun (l : Lms) (o : Ots) (id seed : By) (q : BitVec 32) (hid : id.length = 16) (hsd : seed.length ≤ 140737488351232) : Fun Tryz.prog Gs 72 [Enc.enc l, Enc.enc o, Enc.enc (⟨id⟩ : Ar (BitVec 8)), Enc.enc seed, Enc.enc q] (leafR l o id seed q) := by
  have hit : id.take 16 = id := List.take_of_length_le (by omega)
  by_cases h0 : atE l o seed q = 0
  · obtain ⟨h1, hk, hq⟩ := atE_ok h0 hid
    have hK := mdK_0 (id := id) h1
    rw [leafR, if_pos h0]
    have hct := ctLAt_ok (ctKLeaf_ok (k := ⟨l, o, id, seed⟩) (CtOK_nil (P := Tryz.prog) (Gl := Gs)))
    refine Fun_cc _ mo Tryz.func72 (by decide) cc72 rs72 Tryz.ntmps72 (by simp) (AW_run hct 1000 ?_)
    simp (maxSteps := 10000000) (disch := omega) only [go_sem, c72, ctLAt, ctKLeaf, K, lkC, lkR, hK, h0, hk, hid, hit, hsd, reduceIte, seval, -BitVec.isValue, -BitVec.reduceOfNat, -List.reduceReplicate]
    try simp
  · rw [leafR, if_neg h0]
    obtain ⟨e, he⟩ : ∃ e, e = atE l o seed q := ⟨_, rfl⟩
    rw [← he] at h0 ⊢
    have hct := ctLAt_ok (CtOK_nil (P := Tryz.prog) (Gl := Gs))
    refine Fun_cc _ mo Tryz.func72 (by decide) cc72 rs72 Tryz.ntmps72 (by simp) (AW_run hct 1000 ?_)
    by_cases h1 : mdE l o seed = 0
    · have hK := mdK_0 (id := id) h1
      simp (maxSteps := 10000000) (disch := omega) only [go_sem, c72, ctLAt, hK, lkR, ← he, eq_false h0, hid, hit, hsd, nilE, reduceIte, seval, -BitVec.isValue, -BitVec.reduceOfNat, -List.reduceReplicate]
      try simp
    · have hK := mdK_1 (id := id) h1
      simp (maxSteps := 10000000) (disch := omega) only [go_sem, c72, ctLAt, hK, zk, ← he, eq_false h0, hid, hit, hsd, nilE, reduceIte, seval, -BitVec.isValue, -BitVec.reduceOfNat, -List.reduceReplicate]
      try simp
def ctLLeaf : Nat × (List AV → R) := (72, A5 fun (l : Lms) (o : Ots) (id : Ar (BitVec 8)) (seed : By) (q : BitVec 32) => (id.l.length = 16 ∧ seed.length ≤ 140737488351232, leafR l o id.l seed q))
theorem ctLLeaf_ok {Ct : List (Nat × (List AV → R))} (h : CtOK Tryz.prog Gs Ct) : CtOK Tryz.prog Gs (ctLLeaf :: Ct) := CtOK_cons (Row5 fun l o id seed q h => lLeaf_fun l o id.l seed q h.1 h.2) h
def pathR (l : Lms) (o : Ots) (id seed : By) (q : BitVec 32) : AV := if atE l o seed q = 0 then .tup [Enc.ret (lpath ⟨l, o, id, seed⟩ q.toNat l.h.toNat), .i 0] else nilE (atE l o seed q)
set_option maxHeartbeats 2000000 in
theorem lPath_fun (l : Lms) (o : Ots) (id seed : By) (q : BitVec 32) (hid : id.length = 16) (hsd : seed.length ≤ 140737488351232) (hH : mdE l o seed = 0 → l.h.toNat ≤ 4) : Fun Tryz.prog Gs 51 [Enc.enc l, Enc.enc o, Enc.enc (⟨id⟩ : Ar (BitVec 8)), Enc.enc seed, Enc.enc q] (pathR l o id seed q) := by
  have hit : id.take 16 = id := List.take_of_length_le (by omega)
  by_cases h0 : atE l o seed q = 0
  · obtain ⟨h1, hk, hq⟩ := atE_ok h0 hid
    have hH := hH h1
    have hK := mdK_0 (id := id) h1
    rw [pathR, if_pos h0]
    have hct := ctLAt_ok (ctKPath_ok (k := ⟨l, o, id, seed⟩) (CtOK_nil (P := Tryz.prog) (Gl := Gs)))
    refine Fun_cc _ mo Tryz.func51 (by decide) cc51 rs51 Tryz.ntmps51 (by simp) (AW_run hct 1000 ?_)
    simp (maxSteps := 10000000) (disch := omega) only [go_sem, c51, ctLAt, ctKPath, K, lkC, lkR, hK, h0, hk, hH, hq, hid, hit, hsd, reduceIte, seval, -BitVec.isValue, -BitVec.reduceOfNat, -List.reduceReplicate]
    try simp
  · rw [pathR, if_neg h0]
    obtain ⟨e, he⟩ : ∃ e, e = atE l o seed q := ⟨_, rfl⟩
    rw [← he] at h0 ⊢
    have hct := ctLAt_ok (CtOK_nil (P := Tryz.prog) (Gl := Gs))
    refine Fun_cc _ mo Tryz.func51 (by decide) cc51 rs51 Tryz.ntmps51 (by simp) (AW_run hct 1000 ?_)
    by_cases h1 : mdE l o seed = 0
    · have hK := mdK_0 (id := id) h1
      simp (maxSteps := 10000000) (disch := omega) only [go_sem, c51, ctLAt, hK, lkR, ← he, eq_false h0, hid, hit, hsd, nilE, reduceIte, seval, -BitVec.isValue, -BitVec.reduceOfNat, -List.reduceReplicate]
      try simp
    · have hK := mdK_1 (id := id) h1
      simp (maxSteps := 10000000) (disch := omega) only [go_sem, c51, ctLAt, hK, zk, ← he, eq_false h0, hid, hit, hsd, nilE, reduceIte, seval, -BitVec.isValue, -BitVec.reduceOfNat, -List.reduceReplicate]
      try simp
def ctLPath : Nat × (List AV → R) := (51, A5 fun (l : Lms) (o : Ots) (id : Ar (BitVec 8)) (seed : By) (q : BitVec 32) => (id.l.length = 16 ∧ seed.length ≤ 140737488351232 ∧ (mdE l o seed = 0 → l.h.toNat ≤ 4), pathR l o id.l seed q))
theorem ctLPath_ok {Ct : List (Nat × (List AV → R))} (h : CtOK Tryz.prog Gs Ct) : CtOK Tryz.prog Gs (ctLPath :: Ct) := CtOK_cons (Row5 fun l o id seed q h => lPath_fun l o id.l seed q h.1 h.2.1 h.2.2) h
def lpubR (l : Lms) (o : Ots) (id seed : By) : AV := if mdE l o seed = 0 then .tup [Enc.ret (lpubS' ⟨l, o, id, seed⟩), .i 0] else nilE (mdE l o seed)
set_option maxHeartbeats 2000000 in
theorem lPublic_fun (l : Lms) (o : Ots) (id seed : By) (hid : id.length = 16) (hsd : seed.length ≤ 140737488351232) (hH : mdE l o seed = 0 → l.h.toNat ≤ 4) : Fun Tryz.prog Gs 52 [Enc.enc l, Enc.enc o, Enc.enc (⟨id⟩ : Ar (BitVec 8)), Enc.enc seed] (lpubR l o id seed) := by
  have hit : id.take 16 = id := List.take_of_length_le (by omega)
  by_cases h0 : mdE l o seed = 0
  · have hk := mdE_ok h0 hid
    have hH' := hH h0
    have hrl := lroot_len hk
    have hon : o.n = 24 ∨ o.n = 32 := hk.o.n
    have hR : rootR l o id seed = .tup [Enc.ret (lroot ⟨l, o, id, seed⟩), .i 0] := by rw [rootR, if_pos h0]
    have h4 := bigL_len (l.code.setWidth 64) 4
    have h5 := bigL_len (o.code.setWidth 64) 4
    have hf : [bigL (l.code.setWidth 64) 4, bigL (o.code.setWidth 64) 4, id, lroot ⟨l, o, id, seed⟩].flatten = lpubS' ⟨l, o, id, seed⟩ := by simp [lpubS', lroot]
    have hfl := lpubS'_len hk
    rw [lpubR, if_pos h0]
    have hct := mark_ok 31 (ctLRoot_ok (ctU32_ok (ctOJoin_ok (CtOK_nil (P := Tryz.prog) (Gl := Gs)))))
    refine Fun_cc [mark 31, ctLRoot, ctU32, ctOJoin] mo Tryz.func52 (by decide) cc52 rs52 Tryz.ntmps52 (by simp) (AW_run hct 19 ?_)
    simp (maxSteps := 10000000) (disch := omega) only [go_sem, c52, mark, ctLRoot, ctU32, ctOJoin, hR, h0, hH', hid, hit, hsd, hrl, reduceIte, seval, -BitVec.isValue, -BitVec.reduceOfNat, -List.reduceReplicate]
    refine AW_freeze 2 [6] (seg := ⟨id.map .u8, true⟩) (by simp only [go_sem, reduceIte, seval, -BitVec.isValue, -BitVec.reduceOfNat, -List.reduceReplicate]) rfl (AW_ct [mark 31, ctLRoot, ctU32, ctOJoin] (AW_run hct 1000 ?_))
    simp (maxSteps := 10000000) (disch := omega) only [go_sem, frzF, mark, ctLRoot, ctU32, ctOJoin, hid, hit, hf, hfl, h4, h5, hrl, deL_cons, deL_nil, reduceIte, seval, -BitVec.isValue, -BitVec.reduceOfNat, -List.reduceReplicate]
    try simp
  · rw [lpubR, if_neg h0]
    obtain ⟨e, he⟩ : ∃ e, e = mdE l o seed := ⟨_, rfl⟩
    have hR : rootR l o id seed = nilE e := by rw [rootR, if_neg h0, ← he]
    rw [← he] at h0 ⊢
    have hct := ctLRoot_ok (CtOK_nil (P := Tryz.prog) (Gl := Gs))
    refine Fun_cc _ mo Tryz.func52 (by decide) cc52 rs52 Tryz.ntmps52 (by simp) (AW_run hct 1000 ?_)
    simp (maxSteps := 10000000) (disch := omega) only [go_sem, c52, ctLRoot, hR, ← he, eq_false h0, hid, hit, hsd, nilE, reduceIte, seval, -BitVec.isValue, -BitVec.reduceOfNat, -List.reduceReplicate]
    try simp
def ctLPub (n : Nat) : Nat × (List AV → R) := (n, A4 fun (l : Lms) (o : Ots) (id : Ar (BitVec 8)) (seed : By) => (id.l.length = 16 ∧ seed.length ≤ 140737488351232 ∧ (mdE l o seed = 0 → l.h.toNat ≤ 4), lpubR l o id.l seed))
theorem ctLPub_ok {Ct : List (Nat × (List AV → R))} (h : CtOK Tryz.prog Gs Ct) : CtOK Tryz.prog Gs (ctLPub 52 :: Ct) := CtOK_cons (Row4 fun l o id seed h => lPublic_fun l o id.l seed h.1 h.2.1 h.2.2) h
def lsigR (l : Lms) (o : Ots) (id seed : By) (q : BitVec 32) (msg : By) : AV := if atE l o seed q = 0 then .tup [Enc.ret (lsigS ⟨l, o, id, seed⟩ q msg), .i 0] else nilE (atE l o seed q)
set_option maxHeartbeats 2000000 in
theorem lmSign_fun (l : Lms) (o : Ots) (id seed : By) (q : BitVec 32) (msg : By) (hid : id.length = 16) (hsd : seed.length ≤ 140737488351232) (hm : msg.length ≤ 140737488351232) (hH : mdE l o seed = 0 → l.h.toNat ≤ 4) : Fun Tryz.prog Gs 42 [Enc.enc l, Enc.enc o, Enc.enc (⟨id⟩ : Ar (BitVec 8)), Enc.enc seed, Enc.enc q, Enc.enc msg] (lsigR l o id seed q msg) := by
  have hit : id.take 16 = id := List.take_of_length_le (by omega)
  by_cases h0 : atE l o seed q = 0
  · obtain ⟨h1, hk, hq⟩ := atE_ok h0 hid
    have hH := hH h1
    have hK := mdK_0 (id := id) h1
    have hmay : rMay o seed = 0 := by rw [rMay, if_pos hk.ot, if_pos (by have := hk.s; have := hk.n; simp only at *; omega)]
    have hS : SignR o id q seed msg = .tup [Enc.ret (sigO o (hdS id q) seed msg), .i 0] := by rw [SignR, if_pos hmay]
    have hso := sigO_len hk.ot (hdS id q) seed msg
    have hol := otsLen_eq hk.ot
    have hsm := otsSm_of hk.o
    have hpl := lpath_len hk q.toNat l.h.toNat
    have hon : o.n = 24 ∨ o.n = 32 := hk.o.n
    have hop := hk.o.p
    obtain ⟨sg, hsg⟩ : ∃ sg, sg = sigO o (hdS id q) seed msg := ⟨_, rfl⟩
    obtain ⟨pa, hpa⟩ : ∃ pa, pa = lpath ⟨l, o, id, seed⟩ q.toNat l.h.toNat := ⟨_, rfl⟩
    have hf : [bigL (q.setWidth 64) 4, sg, bigL (l.code.setWidth 64) 4, pa].flatten = lsigS ⟨l, o, id, seed⟩ q msg := by simp [lsigS, hsg, hpa]
    have hlen := (lsig_parts hk q msg).2.2.2.2.1
    have hlm : lmsLen l o ≤ 1000000 := by
      have hs := hk.sm
      simp only at hs hon hop hol
      have e1 := (mul_sm (A := 25) (B := 32) hs.1 hs.2.1 hs.2.2.1 hs.2.2.2).2
      have e2 := (mul_sm (A := 32) (B := 266) (a := o.n) (b := o.p + 1) (by omega) (by omega) (by omega) (by omega)).2
      rw [lmsLen, if_pos hk.f, hol]
      omega
    have hlen' : (lsigS ⟨l, o, id, seed⟩ q msg).length ≤ 140737488351232 := by simp only at hlen; omega
    have h4 := bigL_len (q.setWidth 64) 4
    have h5 := bigL_len (l.code.setWidth 64) 4
    have hsgl : sg.length ≤ 1000000 := by
      have e2 := (mul_sm (A := 32) (B := 266) (a := o.n) (b := o.p + 1) (by omega) (by omega) (by simp only at hop; omega) (by simp only at hop; omega)).2
      simp only at hso hol
      rw [hsg]; omega
    rw [lsigR, if_pos h0]
    rw [← hsg] at hS
    rw [← hpa] at hpl
    have hfl : 4 + (sg.length + (4 + pa.length)) ≤ 140737488351232 := by
      have hmul : l.h.toNat * o.n.toNat ≤ 4 * 32 := Nat.mul_le_mul (by omega) (by omega)
      simp only at hpl; omega
    have hct := mark_ok 59 (ctLAt_ok (ctKPath_ok (k := ⟨l, o, id, seed⟩) (ctLSign_ok (ctU32_ok (ctOJoin_ok (CtOK_nil (P := Tryz.prog) (Gl := Gs)))))))
    refine Fun_cc _ mo Tryz.func42 (by decide) cc42 rs42 Tryz.ntmps42 (by simp) (AW_run hct 1000 ?_)
    simp (maxSteps := 10000000) (disch := omega) only [go_sem, c42, mark, ctLAt, ctKPath, ctLSign, ctU32, ctOJoin, K, lkC, lkR, hK, h0, hk, hH, hq, hid, hit, hsd, hm, hS, ← hpa, hf, hlen', h4, h5, deL_cons, deL_nil, reduceIte, seval, -BitVec.isValue, -BitVec.reduceOfNat, -List.reduceReplicate]
    try simp
  · rw [lsigR, if_neg h0]
    obtain ⟨e, he⟩ : ∃ e, e = atE l o seed q := ⟨_, rfl⟩
    rw [← he] at h0 ⊢
    have hct := ctLAt_ok (CtOK_nil (P := Tryz.prog) (Gl := Gs))
    refine Fun_cc _ mo Tryz.func42 (by decide) cc42 rs42 Tryz.ntmps42 (by simp) (AW_run hct 1000 ?_)
    by_cases h1 : mdE l o seed = 0
    · have hK := mdK_0 (id := id) h1
      simp (maxSteps := 10000000) (disch := omega) only [go_sem, c42, ctLAt, hK, lkR, ← he, eq_false h0, hid, hit, hsd, nilE, reduceIte, seval, -BitVec.isValue, -BitVec.reduceOfNat, -List.reduceReplicate]
      try simp
    · have hK := mdK_1 (id := id) h1
      simp (maxSteps := 10000000) (disch := omega) only [go_sem, c42, ctLAt, hK, zk, ← he, eq_false h0, hid, hit, hsd, nilE, reduceIte, seval, -BitVec.isValue, -BitVec.reduceOfNat, -List.reduceReplicate]
      try simp
def ctLmSign (n : Nat) : Nat × (List AV → R) := (n, A6 fun (l : Lms) (o : Ots) (id : Ar (BitVec 8)) (seed : By) (q : BitVec 32) (msg : By) => (id.l.length = 16 ∧ seed.length ≤ 140737488351232 ∧ msg.length ≤ 140737488351232 ∧ (mdE l o seed = 0 → l.h.toNat ≤ 4), lsigR l o id.l seed q msg))
theorem ctLmSign_ok {Ct : List (Nat × (List AV → R))} (h : CtOK Tryz.prog Gs Ct) : CtOK Tryz.prog Gs (ctLmSign 42 :: Ct) := CtOK_cons (Row6 fun l o id seed q msg h => lmSign_fun l o id.l seed q msg h.1 h.2.1 h.2.2.1 h.2.2.2) h
end Go.Lv
namespace Go.Lv
open Go Go.Proofs
set_option linter.unusedSimpArgs false
set_option maxRecDepth 100000
theorem LnumS_snoc (l : By) (x : BitVec 8) : numS (l ++ [x]) = numS l * 256 + x.setWidth 64 := by simp [numS]
theorem Lshl_or8 (n : BitVec 64) (x : BitVec 8) : (n <<< 8) ||| x.setWidth 64 = n * 256 + x.setWidth 64 := by
  have h : (n <<< 8) &&& x.setWidth 64 = 0 := by
    apply BitVec.eq_of_getLsbD_eq
    intro i hi
    simp only [BitVec.getLsbD_and, BitVec.getLsbD_shiftLeft, BitVec.getLsbD_setWidth]
    by_cases h8 : i < 8
    · simp [h8]
    · have : x.getLsbD i = false := BitVec.getLsbD_of_ge x i (by omega)
      simp [this]
  have e : n <<< 8 = n * 256 := by
    apply BitVec.eq_of_toNat_eq
    rw [BitVec.toNat_shiftLeft, BitVec.toNat_mul, Nat.shiftLeft_eq]; rfl
  rw [← BitVec.add_eq_or_of_and_eq_zero _ _ h, e]
def σlbo (b : By) (j : Nat) : St := ⟨[(4, .u64 (numS (b.take j))), (15, Enc.enc b), (16, .i b.length), (17, .i j)], [], 0⟩
theorem LBigOf_fun (b : By) (h1 : 1 ≤ b.length) (h8 : b.length ≤ 8) : Fun Tryz.prog Gs 172 [Enc.enc b] (.tup [.u64 (numS b), .i 0]) := by
  have hn0 := CtOK_nil (P := Tryz.prog) (Gl := Gs)
  have c1 : ¬ (b.length : Int) < 1 := by omega
  have c8 : ¬ (8 : Int) < (b.length : Int) := by omega
  refine Fun_cc [] mo Tryz.func172 (by decide) cc172 rs172 Tryz.ntmps172 (by simp) (AW_run hn0 1000 ?_)
  simp (maxSteps := 10000000) (disch := omega) only [go_sem, c172, eq_false c1, eq_false c8, reduceIte, seval, -BitVec.isValue, -BitVec.reduceOfNat, -List.reduceReplicate]
  refine AW_loop (σlbo b) (fun j => j ≤ b.length) (fun j => b.length - j) 0 (Nat.zero_le _) (Wk_p [] ?_) fun j hj => ?_
  · have : numS (b.take 0) = 0#64 := rfl
    simp only [go_sem, σlbo, this, reduceIte, seval, -BitVec.isValue, -BitVec.reduceOfNat, -List.reduceReplicate]
    all_goals exact rfl
  · by_cases hc : j < b.length
    · have hc' : (j : Int) < b.length := by omega
      have hs : numS (b.take (j + 1)) = numS (b.take j) * 256 + (b.getD j 0).setWidth 64 := by
        rw [List.take_succ_eq_append_getElem hc, LnumS_snoc]; simp [List.getD_eq_getElem?_getD, hc]
      have ho := Lshl_or8 (numS (b.take j)) (b.getD j 0)
      have hj1 : ((j : Int) + 1) = ((j + 1 : Nat) : Int) := by omega
      refine AW_run hn0 1000 ?_
      simp (maxSteps := 10000000) (disch := omega) only [go_sem, σlbo, eq_true hc', reduceIte, seval, -BitVec.isValue, -BitVec.reduceOfNat, -List.reduceReplicate]
      refine ⟨j + 1, by omega, Wk_p [] ?_, by omega⟩
      simp only [go_sem, σlbo, hs, ho, reduceIte, seval, -BitVec.isValue, -BitVec.reduceOfNat, -List.reduceReplicate]
      try simp [hs, ← ho]
    · have hge : j = b.length := by omega
      have hc' : ¬ (j : Int) < b.length := by omega
      have ht : b.take j = b := List.take_of_length_le (by omega)
      refine AW_run hn0 1000 ?_
      simp (maxSteps := 10000000) (disch := omega) only [go_sem, σlbo, eq_false hc', ht, reduceIte, seval, -BitVec.isValue, -BitVec.reduceOfNat, -List.reduceReplicate]
def LctBigOf : Nat × (List AV → R) := (172, A1 fun b : By => (1 ≤ b.length ∧ b.length ≤ 8, .tup [.u64 (numS b), .i 0]))
theorem LctBigOf_ok {Ct : List (Nat × (List AV → R))} (h : CtOK Tryz.prog Gs Ct) : CtOK Tryz.prog Gs (LctBigOf :: Ct) := CtOK_cons (Row1 fun b h => LBigOf_fun b h.1 h.2) h
theorem number_fun (b : By) (h4 : 4 ≤ b.length) : Fun Tryz.prog Gs 108 [Enc.enc b] (.u32 (nm4 b 0)) := by
  have hct := LctBigOf_ok (CtOK_nil (P := Tryz.prog) (Gl := Gs))
  have hl : (b.take 4).length = 4 := by simp; omega
  have hm : min 4 b.length = 4 := by omega
  have e : (numS (b.take 4)).setWidth 32 = nm4 b 0 := by rw [nm4, List.drop_zero]
  refine Fun_cc _ mo Tryz.func108 (by decide) cc108 rs108 Tryz.ntmps108 (by simp) (AW_run hct 1000 ?_)
  simp (maxSteps := 10000000) (disch := omega) only [go_sem, c108, LctBigOf, hm, e, reduceIte, seval, -BitVec.isValue, -BitVec.reduceOfNat, -List.reduceReplicate]
  try simp
def ctLNum : Nat × (List AV → R) := (108, A1 fun b : By => (4 ≤ b.length, .u32 (nm4 b 0)))
theorem ctLNum_ok {Ct : List (Nat × (List AV → R))} (h : CtOK Tryz.prog Gs Ct) : CtOK Tryz.prog Gs (ctLNum :: Ct) := CtOK_cons (Row1 fun b h => number_fun b h) h
def lixR (sig : By) : AV := if sig.length < 4 then .tup [.u32 0, .i 70] else .tup [.u32 (nm4 sig 0), .i 0]
theorem lIndex_fun (sig : By) : Fun Tryz.prog Gs 45 [Enc.enc sig] (lixR sig) := by
  have hct := ctLNum_ok (CtOK_nil (P := Tryz.prog) (Gl := Gs))
  refine Fun_cc _ mo Tryz.func45 (by decide) cc45 rs45 Tryz.ntmps45 (by simp) (AW_run hct 1000 ?_)
  by_cases h : sig.length < 4
  · have h' : (sig.length : Int) < 4 := by omega
    rw [lixR, if_pos h]
    simp (maxSteps := 10000000) (disch := omega) only [go_sem, c45, eq_true h', reduceIte, seval, -BitVec.isValue, -BitVec.reduceOfNat, -List.reduceReplicate]
  · have h' : ¬ (sig.length : Int) < 4 := by omega
    rw [lixR, if_neg h]
    simp (maxSteps := 10000000) (disch := omega) only [go_sem, c45, ctLNum, eq_false h', reduceIte, seval, -BitVec.isValue, -BitVec.reduceOfNat, -List.reduceReplicate]
def ctLIndex : Nat × (List AV → R) := (45, A1 fun b : By => (True, lixR b))
theorem ctLIndex_ok {Ct : List (Nat × (List AV → R))} (h : CtOK Tryz.prog Gs Ct) : CtOK Tryz.prog Gs (ctLIndex :: Ct) := CtOK_cons (Row1 fun b _ => lIndex_fun b) h
def σlc (k : LK) (q : Nat) (path v : By) (j : Nat) : St :=
  ⟨[(2, Enc.enc (lclimb k.o k.id k.l.h.toNat q path j v)), (3, Enc.enc (path.drop (j * k.o.n.toNat))), (4, .ptr 0 0), (9, .u32 (lN k.l.h.toNat j (q / 2 ^ j)))], [(0, ⟨lkC k, true⟩)], 1⟩
theorem lN_gt {H q j : Nat} (hH : H ≤ 25) (hq : q < 2 ^ H) (hj : j ≤ H) : (1#32 < lN H j (q / 2 ^ j)) ↔ j < H := by
  have h25 : 2 ^ H ≤ 2 ^ 25 := Nat.pow_le_pow_right (n := 2) (by omega) hH
  have hp : 2 ^ (H - j) ≤ 2 ^ H := Nat.pow_le_pow_right (n := 2) (by omega) (by omega)
  have hd : q / 2 ^ j ≤ q := Nat.div_le_self _ _
  have e1 : (1#32).toNat = 1 := rfl
  have e2 : (lN H j (q / 2 ^ j)).toNat = 2 ^ (H - j) + q / 2 ^ j := by rw [lN, BitVec.toNat_ofNat]; exact Nat.mod_eq_of_lt (by omega)
  rw [BitVec.lt_def, e1, e2]
  constructor
  · intro h
    rcases Nat.lt_or_ge j H with h1 | h1
    · exact h1
    · have : j = H := by omega
      subst this
      rw [Nat.div_eq_of_lt hq] at h
      simp at h
  · intro h
    have : 2 ^ 1 ≤ 2 ^ (H - j) := Nat.pow_le_pow_right (n := 2) (by omega) (by omega)
    exact Nat.lt_of_lt_of_le this (Nat.le_add_right _ _)
theorem lN_step {H q j : Nat} (hH : H ≤ 25) (hq : q < 2 ^ H) (hj : j < H) : lN H j (q / 2 ^ j) / 2#32 = lN H (j + 1) (q / 2 ^ (j + 1)) ∧ (lN H j (q / 2 ^ j) % 2#32 = 0#32 ↔ q / 2 ^ j % 2 = 0) := by
  have h25 : 2 ^ H ≤ 2 ^ 25 := Nat.pow_le_pow_right (n := 2) (by omega) hH
  have hp : 2 ^ (H - j) ≤ 2 ^ H := Nat.pow_le_pow_right (n := 2) (by omega) (by omega)
  have hd : q / 2 ^ j ≤ q := Nat.div_le_self _ _
  have h2 : 2 ^ (H - j) = 2 * 2 ^ (H - (j + 1)) := by rw [show H - j = (H - (j + 1)) + 1 by omega, Nat.pow_succ, Nat.mul_comm]
  have hdd : q / 2 ^ (j + 1) = q / 2 ^ j / 2 := by rw [Nat.pow_succ, Nat.div_div_eq_div_mul]
  have e3 : (2#32).toNat = 2 := rfl
  have m1 : (2 ^ (H - j) + q / 2 ^ j) % 2 ^ 32 = 2 ^ (H - j) + q / 2 ^ j := Nat.mod_eq_of_lt (by omega)
  have m2 : (2 ^ (H - (j + 1)) + q / 2 ^ j / 2) % 2 ^ 32 = 2 ^ (H - (j + 1)) + q / 2 ^ j / 2 := Nat.mod_eq_of_lt (by omega)
  constructor
  · apply BitVec.eq_of_toNat_eq
    rw [lN, lN, BitVec.toNat_udiv, e3, BitVec.toNat_ofNat, BitVec.toNat_ofNat, hdd, m1, m2]
    omega
  · constructor
    · intro h
      have := congrArg BitVec.toNat h
      rw [lN, BitVec.toNat_umod, e3, BitVec.toNat_ofNat, m1] at this
      have e0 : (0#32).toNat = 0 := rfl
      omega
    · intro h
      apply BitVec.eq_of_toNat_eq
      have e0 : (0#32).toNat = 0 := rfl
      rw [lN, BitVec.toNat_umod, e3, BitVec.toNat_ofNat, m1]
      omega
set_option maxHeartbeats 4000000 in
theorem comes_fun (k : LK) (q : BitVec 32) (v path : By) (hk : LKf k) (hq : q.toNat < 2 ^ k.l.h.toNat) (hv : v.length = k.o.n.toNat) (hp : path.length = k.l.h.toNat * k.o.n.toNat) :
    Fun Tryz.prog Gs 115 [K k, Enc.enc q, Enc.enc v, Enc.enc path] (Enc.enc (lclimb k.o k.id k.l.h.toNat q.toNat path k.l.h.toNat v)) := by
  have hid := hk.i
  have hs := hk.sm
  have hon := hk.o.n
  have hkn := hk.n
  have hn0 := CtOK_nil (P := Tryz.prog) (Gl := Gs)
  have hlf := lleafn hk q
  have h0 : lN k.l.h.toNat 0 (q.toNat / 2 ^ 0) = lN k.l.h.toNat 0 q.toNat := by simp
  have hct := ctKLeaves_ok (k := k) hn0
  refine Fun_cc [ctKLeaves k] mo Tryz.func115 (by decide) cc115 rs115 Tryz.ntmps115 (by simp) (AW_run hct 1000 ?_)
  simp (maxSteps := 10000000) (disch := omega) only [go_sem, c115, ctKLeaves, K, lkC, hid, hk, hlf, reduceIte, seval, -BitVec.isValue, -BitVec.reduceOfNat, -List.reduceReplicate]
  have hcl := fun j => lclimb_len hk.o k.id k.l.h.toNat q.toNat path j v hv
  refine AW_loop (σlc k q.toNat path v) (fun j => j ≤ k.l.h.toNat) (fun j => k.l.h.toNat - j) 0 (Nat.zero_le _) (Wk_p [] ?_) fun j hj => ?_
  · have e0 : lclimb k.o k.id k.l.h.toNat q.toNat path 0 v = v := rfl
    simp only [go_sem, σlc, e0, h0, lkC, Nat.zero_mul, reduceIte, seval, -BitVec.isValue, -BitVec.reduceOfNat, -List.reduceReplicate]
    try simp
  · have hgt := lN_gt (H := k.l.h.toNat) (q := q.toNat) (j := j) (by omega) hq hj
    have hjl := hcl j
    have hm1 : k.l.h.toNat * k.o.n.toNat ≤ 25 * 32 := Nat.mul_le_mul (by omega) (by omega)
    have hm2 : j * k.o.n.toNat ≤ k.l.h.toNat * k.o.n.toNat := Nat.mul_le_mul_right _ hj
    by_cases hc : j < k.l.h.toNat
    · have hc' := hgt.2 hc
      have hc2 : (1 : BitVec 32) < lN k.l.h.toNat j (q.toNat / 2 ^ j) := hc'
      obtain ⟨s1, s2⟩ := lN_step (H := k.l.h.toNat) (q := q.toNat) (j := j) (by omega) hq hc
      have s1' : lN k.l.h.toNat j (q.toNat / 2 ^ j) / (2 : BitVec 32) = lN k.l.h.toNat (j + 1) (q.toNat / 2 ^ (j + 1)) := s1
      have hm3 : (j + 1) * k.o.n.toNat ≤ k.l.h.toNat * k.o.n.toNat := Nat.mul_le_mul_right _ hc
      have hsm : (j + 1) * k.o.n.toNat = j * k.o.n.toNat + k.o.n.toNat := Nat.succ_mul _ _
      have hdl : (path.drop (j * k.o.n.toNat)).length = path.length - j * k.o.n.toNat := List.length_drop
      have hsb : (path.drop (j * k.o.n.toNat)).take k.o.n.toNat = lsib k.o.n.toNat path j := rfl
      have hsl := lsib_len k.o.n.toNat path j (by omega)
      have hdd : (path.drop (j * k.o.n.toNat)).drop k.o.n.toNat = path.drop ((j + 1) * k.o.n.toNat) := by rw [List.drop_drop, hsm]
      obtain ⟨D, hD⟩ : ∃ D, D = path.drop (j * k.o.n.toNat) := ⟨_, rfl⟩
      rw [← hD] at hdl hsb hdd
      have hDl : k.o.n.toNat ≤ D.length := by omega
      have hDi : k.o.n ≤ (D.length : Int) := by omega
      have hct := ctKNode_ok (k := k) hn0
      have hrest : D.length - k.o.n.toNat = (path.drop ((j + 1) * k.o.n.toNat)).length := by rw [List.length_drop, hdl]; omega
      have hlcs : lclimb k.o k.id k.l.h.toNat q.toNat path (j + 1) v = if q.toNat / 2 ^ j % 2 = 0 then ndS k.o k.id (lN k.l.h.toNat (j + 1) (q.toNat / 2 ^ (j + 1))) (lclimb k.o k.id k.l.h.toNat q.toNat path j v) (lsib k.o.n.toNat path j) else ndS k.o k.id (lN k.l.h.toNat (j + 1) (q.toNat / 2 ^ (j + 1))) (lsib k.o.n.toNat path j) (lclimb k.o k.id k.l.h.toNat q.toNat path j v) := rfl
      by_cases he : q.toNat / 2 ^ j % 2 = 0
      · have s3 := s2.2 he
        have s3' : lN k.l.h.toNat j (q.toNat / 2 ^ j) % (2 : BitVec 32) = 0#32 := s3
        rw [if_pos he] at hlcs
        refine AW_ct [ctKNode k] (AW_run hct 1000 ?_)
        simp (maxSteps := 10000000) (disch := omega) only [go_sem, σlc, ← hD, ctKNode, K, lkC, hid, hk, eq_true hc', eq_true hc2, hkn, hDi, hdl, s3, s3', s1, s1', hsb, hsl, hjl, hdd, reduceIte, seval, -BitVec.isValue, -BitVec.reduceOfNat, -List.reduceReplicate]
        refine ⟨j + 1, by omega, Wk_uf 99 [2] (Wk_p [] ?_), by omega⟩
        simp only [go_sem, σlc, ufF, ufH, lkC, hlcs, hrest, reduceIte, seval, -BitVec.isValue, -BitVec.reduceOfNat, -List.reduceReplicate]
        simp [hD, hrest, lsib]
        exact ⟨by omega, List.take_of_length_le (by simp; omega)⟩
      · have s3 : ¬ lN k.l.h.toNat j (q.toNat / 2 ^ j) % 2#32 = 0#32 := fun e => he (s2.1 e)
        have s3' : ¬ lN k.l.h.toNat j (q.toNat / 2 ^ j) % (2 : BitVec 32) = 0#32 := s3
        rw [if_neg he] at hlcs
        refine AW_ct [ctKNode k] (AW_run hct 1000 ?_)
        simp (maxSteps := 10000000) (disch := omega) only [go_sem, σlc, ← hD, ctKNode, K, lkC, hid, hk, eq_true hc', eq_true hc2, hkn, hDi, hdl, eq_false s3, eq_false s3', s1, s1', hsb, hsl, hjl, hdd, reduceIte, seval, -BitVec.isValue, -BitVec.reduceOfNat, -List.reduceReplicate]
        refine ⟨j + 1, by omega, Wk_uf 99 [2] (Wk_p [] ?_), by omega⟩
        simp only [go_sem, σlc, ufF, ufH, lkC, hlcs, hrest, reduceIte, seval, -BitVec.isValue, -BitVec.reduceOfNat, -List.reduceReplicate]
        simp [hD, hrest, lsib]
        exact ⟨by omega, List.take_of_length_le (by simp; omega)⟩
    · have hc' : ¬ 1#32 < lN k.l.h.toNat j (q.toNat / 2 ^ j) := fun e => hc (hgt.1 e)
      have hc2 : ¬ (1 : BitVec 32) < lN k.l.h.toNat j (q.toNat / 2 ^ j) := hc'
      have hge : j = k.l.h.toNat := by omega
      refine AW_ct [] (AW_run hn0 1000 ?_)
      simp (maxSteps := 10000000) (disch := omega) only [go_sem, σlc, eq_false hc', eq_false hc2, reduceIte, seval, -BitVec.isValue, -BitVec.reduceOfNat, -List.reduceReplicate]
      rw [← hge]
def ctKComes (k : LK) : Nat × (List AV → R) := (115, AK3 (K k) fun (q : BitVec 32) (v path : By) => (LKf k ∧ q.toNat < 2 ^ k.l.h.toNat ∧ v.length = k.o.n.toNat ∧ path.length = k.l.h.toNat * k.o.n.toNat, Enc.enc (lclimb k.o k.id k.l.h.toNat q.toNat path k.l.h.toNat v)))
theorem ctKComes_ok {k : LK} {Ct : List (Nat × (List AV → R))} (h : CtOK Tryz.prog Gs Ct) : CtOK Tryz.prog Gs (ctKComes k :: Ct) := CtOK_cons (RowK3 fun q v path h => comes_fun k q v path h.1 h.2.1 h.2.2.1 h.2.2.2) h
end Go.Lv
namespace Go.Lv
open Go Go.Proofs
set_option linter.unusedSimpArgs false
set_option maxRecDepth 100000
theorem nm4_drop {b : By} (i : Nat) : nm4 (b.drop i) 0 = nm4 b i := by simp [nm4]
theorem lvK_ok {pub : By} {k : LK} (h : lvK pub = some k) : LKf k ∧ k.sd = [] ∧ pub.length = 24 + k.o.n.toNat ∧ lmsT (nm4 pub 0) = some k.l ∧ otsT (nm4 pub 4) = some k.o ∧ k.id = (pub.drop 8).take 16 ∧ (pub.length : Int) = lmsPub k.l := by
  unfold lvK at h
  split at h
  · cases h
  · rename_i hp
    split at h
    · rename_i l o hl ho
      split at h
      · rename_i hf
        cases h
        have hs := lmsT_sm hf.1.1
        have e : lmsPub l = 24 + l.n := by rw [lmsPub, if_pos hf.1.1]
        have hnn : l.n = o.n := hf.1.2.2.2
        have h3 := hs.2.2.1
        have h2 := hf.2
        refine ⟨⟨hf.1, ?_⟩, rfl, ?_, hl, ho, rfl, hf.2⟩
        · have hon := (otsT_ok hf.1.2.1).n
          simp; omega
        · simp only; omega
      · cases h
    · cases h
def pubR (pub : By) : AV := match lvK pub with
  | none => .tup [.agg zk, .ros true 0 [], .b false]
  | some k => .tup [.agg (lk1 k), Enc.enc (pub.drop 24), .b true]
set_option maxHeartbeats 2000000 in
theorem lpublic_fun (pub : By) : Fun Tryz.prog Gs 109 [Enc.enc pub] (pubR pub) := by
  have hct := ctLNum_ok (ctLms_ok (ctOts_ok (ctFit_ok (ctLmsPub_ok (CtOK_nil (P := Tryz.prog) (Gl := Gs))))))
  refine Fun_cc [ctLNum, ctLms 136, ctOts, ctFit 139, ctLmsPub 173] mo Tryz.func109 (by decide) cc109 rs109 Tryz.ntmps109 (by simp) ?_
  by_cases h8 : pub.length < 8
  · have h8' : (pub.length : Int) < 8 := by omega
    rw [pubR, lvK, if_pos h8]
    refine AW_run hct 1000 ?_
    simp (maxSteps := 10000000) (disch := omega) only [go_sem, c109, eq_true h8', zk, reduceIte, seval, -BitVec.isValue, -BitVec.reduceOfNat, -List.reduceReplicate]
  · have h8' : ¬ (pub.length : Int) < 8 := by omega
    have hd4 : nm4 (List.take (pub.length - 4) (List.drop 4 pub)) 0 = nm4 pub 4 := by rw [List.take_of_length_le (by simp), nm4_drop]
    cases hK : lvK pub with
    | some k =>
      obtain ⟨hk, hsd, hpl, hl, ho, hid, hlp⟩ := lvK_ok hK
      have hlR : lmsR (nm4 pub 0) = .tup [Enc.enc k.l, .i 0] := by rw [lmsR, hl]
      have hoR : otsR (nm4 pub 4) = .tup [Enc.enc k.o, .i 0] := by rw [otsR, ho]
      have hf := hk.f
      have hsm := lmsT_sm hk.lm
      rw [pubR, hK]
      have hon := hk.o.n
      have hidl := hk.i
      have hid' : (List.take 16 (List.drop 8 pub)) = k.id := hid.symm
      refine AW_run hct 59 ?_
      simp (maxSteps := 10000000) (disch := omega) only [go_sem, c109, ctLNum, ctLms, ctOts, ctFit, ctLmsPub, hlR, hoR, hd4, hf, hsm, hlp.symm, hid', hidl, eq_false h8', lk1, reduceIte, seval, -BitVec.isValue, -BitVec.reduceOfNat, -List.reduceReplicate]
      have hit : k.id.take 16 = k.id := List.take_of_length_le (by omega)
      have hdl : (pub.drop 24).length = pub.length - 24 := List.length_drop
      refine AW_drr hct 1000 [(2, ⟨[.u32 k.o.code, .b k.o.shake, .i k.o.n, .i k.o.w, .i k.o.p, .i k.o.ls], true⟩), (1, ⟨[.u32 k.l.code, .b k.l.shake, .i k.l.n, .i k.l.h], true⟩)] rfl (by simp only [go_sem, reduceIte, seval, -BitVec.isValue, -BitVec.reduceOfNat, -List.reduceReplicate]) ?_
      simp (maxSteps := 10000000) (disch := omega) only [go_sem, hid', hidl, hit, hdl, hpl, reduceIte, seval, -BitVec.isValue, -BitVec.reduceOfNat, -List.reduceReplicate]
      try simp [hit, hpl]
      exact List.take_of_length_le (by simp; omega)
    | none =>
      rw [pubR, hK]
      cases hl : lmsT (nm4 pub 0) with
      | none =>
        have hlR : lmsR (nm4 pub 0) = .tup [Enc.enc lms0, .i 60] := by rw [lmsR, hl]
        have hoR := otsR_eq (nm4 pub 4)
        refine AW_run hct 1000 ?_
        simp (maxSteps := 10000000) (disch := omega) only [go_sem, c109, ctLNum, ctLms, ctOts, ctFit, ctLmsPub, hlR, hoR, hd4, eq_false h8', zk, reduceIte, seval, -BitVec.isValue, -BitVec.reduceOfNat, -List.reduceReplicate]
      | some l =>
        have hlR : lmsR (nm4 pub 0) = .tup [Enc.enc l, .i 0] := by rw [lmsR, hl]
        cases ho : otsT (nm4 pub 4) with
        | none =>
          have hoR : otsR (nm4 pub 4) = .tup [Enc.enc ots0, .i 60] := by rw [otsR, ho]
          refine AW_run hct 1000 ?_
          simp (maxSteps := 10000000) (disch := omega) only [go_sem, c109, ctLNum, ctLms, ctOts, ctFit, ctLmsPub, hlR, hoR, hd4, eq_false h8', zk, reduceIte, seval, -BitVec.isValue, -BitVec.reduceOfNat, -List.reduceReplicate]
        | some o =>
          have hoR : otsR (nm4 pub 4) = .tup [Enc.enc o, .i 0] := by rw [otsR, ho]
          refine AW_run hct 1000 ?_
          by_cases hf : fitP l o
          · have hsm := lmsT_sm hf.1
            have hne : ¬ (pub.length : Int) = lmsPub l := fun e => by
              rw [lvK, if_neg h8, hl, ho] at hK
              simp only [if_pos (show fitP l o ∧ (pub.length : Int) = lmsPub l from ⟨hf, e⟩)] at hK
              cases hK
            simp (maxSteps := 10000000) (disch := omega) only [go_sem, c109, ctLNum, ctLms, ctOts, ctFit, ctLmsPub, hlR, hoR, hd4, hf, hsm, eq_false hne, eq_false h8', zk, reduceIte, seval, -BitVec.isValue, -BitVec.reduceOfNat, -List.reduceReplicate]
          · simp (maxSteps := 10000000) (disch := omega) only [go_sem, c109, ctLNum, ctLms, ctOts, ctFit, ctLmsPub, hlR, hoR, hd4, eq_false hf, eq_false h8', zk, reduceIte, seval, -BitVec.isValue, -BitVec.reduceOfNat, -List.reduceReplicate]
def ctLpublic : Nat × (List AV → R) := (109, A1 fun pub : By => (True, pubR pub))
theorem ctLpublic_ok {Ct : List (Nat × (List AV → R))} (h : CtOK Tryz.prog Gs Ct) : CtOK Tryz.prog Gs (ctLpublic :: Ct) := CtOK_cons (Row1 fun b _ => lpublic_fun b) h
theorem cnO_len {o : Ots} (ho : OtsOK o) (hd msg sig : By) : (cnO o hd msg sig).length = o.n.toNat := by
  have := hO_len ho (preS hd 32896 ++ ends (cnD o hd msg sig).length (cnF o hd (sig.drop (4 + o.n.toNat)) (cnD o hd msg sig)))
  have h : cnO o hd msg sig = hO o (preS hd 32896 ++ ends (cnD o hd msg sig).length (cnF o hd (sig.drop (4 + o.n.toNat)) (cnD o hd msg sig))) := rfl
  rw [h]; omega
set_option maxHeartbeats 4000000 in
theorem lVerify_fun (pub msg sig : By) (hm : msg.length ≤ 140737488351232) : Fun Tryz.prog Gs 47 [Enc.enc pub, Enc.enc msg, Enc.enc sig] (.i (lvE pub msg sig)) := by
  cases hK : lvK pub with
  | none =>
    have hR : pubR pub = .tup [.agg zk, .ros true 0 [], .b false] := by rw [pubR, hK]
    rw [lvE, hK]
    have hct := ctLpublic_ok (CtOK_nil (P := Tryz.prog) (Gl := Gs))
    refine Fun_cc _ mo Tryz.func47 (by decide) cc47 rs47 Tryz.ntmps47 (by simp) (AW_run hct 1000 ?_)
    simp (maxSteps := 10000000) (disch := omega) only [go_sem, c47, ctLpublic, hR, zk, reduceIte, seval, -BitVec.isValue, -BitVec.reduceOfNat, -List.reduceReplicate]
  | some k =>
    obtain ⟨hk, hsd, hpl, hl, ho, hid, hlp⟩ := lvK_ok hK
    have hR : pubR pub = .tup [.agg (lk1 k), Enc.enc (pub.drop 24), .b true] := by rw [pubR, hK]
    have hsm := lmsT_sm hk.lm
    have hos := otsSm_of hk.o
    have hon := hk.o.n
    have hop := hk.o.p
    have hol := otsLen_eq hk.ot
    have hi := hk.i
    have hkn := hk.n
    have hks := hk.sm
    have hit : k.id.take 16 = k.id := List.take_of_length_le (by omega)
    have hk1 : LKf ⟨k.l, k.o, k.id, []⟩ := ⟨hk.f, hk.i⟩
    have hll : 0 ≤ lmsLen k.l k.o ∧ lmsLen k.l k.o = 4 + otsLen k.o + 4 + k.l.h * k.l.n := by
      have e2 := mul_sm (A := 32) (B := 266) (a := k.o.n) (b := k.o.p + 1) (by omega) (by omega) (by omega) (by omega)
      have e1 := mul_sm (A := 25) (B := 32) hks.1 hks.2.1 hks.2.2.1 hks.2.2.2
      rw [lmsLen, if_pos hk.f]
      omega
    have hct := ctLpublic_ok (ctLmsLen_ok (ctLNum_ok (ctOtsLen_ok (ctKLeaves_ok (k := k.pk) (ctLCand_ok (ctKBottom_ok (k := k.pk) (ctSame_ok (ctKComes_ok (k := k.pk) (CtOK_nil (P := Tryz.prog) (Gl := Gs))))))))))
    refine Fun_cc [ctLpublic, ctLmsLen 110, ctLNum, ctOtsLen 111, ctKLeaves k.pk, ctLCand, ctKBottom k.pk, ctSame, ctKComes k.pk] mo Tryz.func47 (by decide) cc47 rs47 Tryz.ntmps47 (by simp) (AW_run hct 9 ?_)
    simp (maxSteps := 10000000) (disch := omega) only [go_sem, c47, ctLpublic, hR, lk1, hi, hit, reduceIte, seval, -BitVec.isValue, -BitVec.reduceOfNat, -List.reduceReplicate]
    refine AW_freeze 0 [7] (seg := ⟨lk1 k, true⟩) (by simp only [go_sem, lk1, reduceIte, seval, -BitVec.isValue, -BitVec.reduceOfNat, -List.reduceReplicate]) rfl ?_
    by_cases hlen : (sig.length : Int) = lmsLen k.l k.o
    · have hel := hlen.symm
      rw [hll.2] at hlen
      have hpk := pw_le (h := k.l.h.toNat) (by omega) (nm4 sig 0)
      have hmul : 0 ≤ k.l.h * k.l.n := Int.mul_nonneg (by omega) (by omega)
      have hmul2 : 0 ≤ k.o.n * (k.o.p + 1) := Int.mul_nonneg (by omega) (by omega)
      have hs8 : 8 ≤ sig.length := by omega
      have hs4 : 4 ≤ sig.length := by omega
      have hE : 4 + otsLen k.o = (oE k.o : Int) := by rw [oE]; omega
      have hE1 : oE k.o ≤ 1000000 := by
        have e2 := mul_sm (A := 32) (B := 266) (a := k.o.n) (b := k.o.p + 1) (by omega) (by omega) (by omega) (by omega)
        rw [oE]; omega
      have hE2 : (oE k.o : Int) ≤ 9223372036854775807 := by omega
      have hEl : oE k.o + 4 ≤ sig.length := by rw [oE]; omega
      have hEm : 4 ≤ sig.length - oE k.o := by omega
      have hEn : (oE k.o : Int) ≤ sig.length := by omega
      have hEn' : oE k.o ≤ sig.length := by omega
      have hn4 : nm4 (List.take (sig.length - oE k.o) (List.drop (oE k.o) sig)) 0 = nm4 sig (oE k.o) := by rw [List.take_of_length_le (by simp), nm4_drop]
      by_cases hq : (nm4 sig 0).toNat < 2 ^ k.l.h.toNat
      · have hq' : ¬ pw k.l.h.toNat ≤ (nm4 sig 0).setWidth 64 := fun e => by have := hpk.1 e; omega
        by_cases hc : nm4 sig (oE k.o) = k.l.code
        · have hSe : oE k.o - 4 = (otsLen k.o).toNat := by rw [oE]; omega
          have hp1 : List.take (sig.length - (oE k.o + 4)) (List.drop (oE k.o + 4) sig) = sig.drop (oE k.o + 4) := List.take_of_length_le (by simp)
          have hpl2 : (sig.drop (oE k.o + 4)).length = k.l.h.toNat * k.o.n.toNat := by
            have q1 : k.l.h * k.l.n = ((k.l.h.toNat * k.o.n.toNat : Nat) : Int) := by rw [Int.natCast_mul, hkn, show (k.l.h.toNat : Int) = k.l.h by omega, show (k.o.n.toNat : Int) = k.o.n by omega]
            rw [List.length_drop]; omega
          have hdl : sig.length - (oE k.o + 4) = k.l.h.toNat * k.o.n.toNat := by rw [← hpl2, List.length_drop]
          have hSl : ((sig.drop 4).take (otsLen k.o).toNat).length = (otsLen k.o).toNat := by simp; omega
          have hcl := cnO_len hk.o (hdS k.id (nm4 sig 0)) msg ((sig.drop 4).take (otsLen k.o).toNat)
          have hLl : (lvL k msg sig).length = k.o.n.toNat := lfS_len hk.o _ _ _
          have hCl : (lvC k msg sig).length = k.o.n.toNat := lclimb_len hk.o _ _ _ _ _ _ hLl
          have hE4 : (oE k.o : Int) + 4 = ((oE k.o + 4 : Nat) : Int) := by omega
          have hE5 : ((oE k.o + 4 : Nat) : Int) ≤ 9223372036854775807 := by omega
          have hE6 : ((oE k.o + 4 : Nat) : Int) ≤ sig.length := by omega
          have h4E : (4 : Int) ≤ (oE k.o : Int) := by rw [oE]; omega
          rw [lvE, hK]
          simp only [if_pos hel.symm, if_pos (show (nm4 sig 0).toNat < 2 ^ k.l.h.toNat ∧ nm4 sig (oE k.o) = k.l.code from ⟨hq, hc⟩)]
          by_cases hcn : cnE k.o ((sig.drop 4).take (otsLen k.o).toNat) = 0
          · have hCR : CandR k.o k.id (nm4 sig 0) msg ((sig.drop 4).take (otsLen k.o).toNat) = .tup [Enc.ret (cnO k.o (hdS k.id (nm4 sig 0)) msg ((sig.drop 4).take (otsLen k.o).toNat)), .i 0] := by rw [CandR, if_pos hcn]
            rw [if_pos hcn]
            have hLe : lfS k.o k.id (lN k.l.h.toNat 0 (nm4 sig 0).toNat) (cnO k.o (hdS k.id (nm4 sig 0)) msg ((sig.drop 4).take (otsLen k.o).toNat)) = lvL k msg sig := rfl
            have hCe : lclimb k.o k.id k.l.h.toNat (nm4 sig 0).toNat (sig.drop (oE k.o + 4)) k.l.h.toNat (lvL k msg sig) = lvC k msg sig := rfl
            have hpt : List.take (24 + k.o.n.toNat - 24) (List.drop 24 pub) = pub.drop 24 := List.take_of_length_le (by simp; omega)
            have hpd : (pub.drop 24).length = k.o.n.toNat := by rw [List.length_drop]; omega
            have hp1' : List.take (k.l.h.toNat * k.o.n.toNat) (List.drop (oE k.o + 4) sig) = sig.drop (oE k.o + 4) := List.take_of_length_le (by omega)
            by_cases hfin : lvC k msg sig = pub.drop 24
            · rw [if_pos hfin]
              refine AW_run hct 1000 ?_
              simp (maxSteps := 10000000) (disch := omega) only [go_sem, frzF, ctLpublic, ctLmsLen, ctLNum, ctOtsLen, ctKLeaves, ctLCand, ctKBottom, ctSame, ctKComes, lk1, K, lkC, LK.pk, hi, hit, hsm, hos, hel, hs4, hE, hE2, hEm, hEn, hEn', hn4, hk1, eq_false hq', hc, hSe, hp1, hdl, hSl, hcl, hE4, hE5, hE6, h4E, hCR, hm, hLe, hCe, hLl, hCl, hpl, hpt, hpd, hp1', eq_true hfin, decide_true, reduceIte, seval, -BitVec.isValue, -BitVec.reduceOfNat, -List.reduceReplicate]
            · rw [if_neg hfin]
              refine AW_run hct 1000 ?_
              simp (maxSteps := 10000000) (disch := omega) only [go_sem, frzF, ctLpublic, ctLmsLen, ctLNum, ctOtsLen, ctKLeaves, ctLCand, ctKBottom, ctSame, ctKComes, lk1, K, lkC, LK.pk, hi, hit, hsm, hos, hel, hs4, hE, hE2, hEm, hEn, hEn', hn4, hk1, eq_false hq', hc, hSe, hp1, hdl, hSl, hcl, hE4, hE5, hE6, h4E, hCR, hm, hLe, hCe, hLl, hCl, hpl, hpt, hpd, hp1', eq_false hfin, decide_false, reduceIte, seval, -BitVec.isValue, -BitVec.reduceOfNat, -List.reduceReplicate]
          · have hCR : CandR k.o k.id (nm4 sig 0) msg ((sig.drop 4).take (otsLen k.o).toNat) = nilE (cnE k.o ((sig.drop 4).take (otsLen k.o).toNat)) := by rw [CandR, if_neg hcn]
            rw [if_neg hcn]
            refine AW_run hct 1000 ?_
            simp (maxSteps := 10000000) (disch := omega) only [go_sem, frzF, ctLpublic, ctLmsLen, ctLNum, ctOtsLen, ctKLeaves, ctLCand, ctKBottom, ctSame, ctKComes, lk1, K, lkC, LK.pk, hi, hit, hsm, hos, hel, hs4, hE, hE2, hEm, hEn, hEn', hn4, hk1, eq_false hq', hc, hSe, hp1, hdl, hSl, hcl, hE4, hE5, hE6, h4E, hCR, hm, eq_false hcn, nilE, reduceIte, seval, -BitVec.isValue, -BitVec.reduceOfNat, -List.reduceReplicate]
        · refine AW_run hct 1000 ?_
          simp (maxSteps := 10000000) (disch := omega) only [go_sem, frzF, ctLpublic, ctLmsLen, ctLNum, ctOtsLen, ctKLeaves, ctLCand, ctKBottom, ctSame, ctKComes, lk1, K, lkC, LK.pk, hi, hit, hsm, hos, hel, hs4, hE, hE2, hEm, hEn, hEn', hn4, hk1, eq_false hq', eq_false hc, reduceIte, seval, -BitVec.isValue, -BitVec.reduceOfNat, -List.reduceReplicate]
          rw [lvE, hK]
          simp only [if_pos hel.symm, if_neg (show ¬ ((nm4 sig 0).toNat < 2 ^ k.l.h.toNat ∧ nm4 sig (oE k.o) = k.l.code) from fun e => hc e.2)]
      · have hq' : pw k.l.h.toNat ≤ (nm4 sig 0).setWidth 64 := hpk.2 (by omega)
        rw [lvE, hK]
        simp only [if_pos hel.symm, if_neg (show ¬ ((nm4 sig 0).toNat < 2 ^ k.l.h.toNat ∧ nm4 sig (oE k.o) = k.l.code) from fun e => hq e.1)]
        refine AW_run hct 1000 ?_
        simp (maxSteps := 10000000) (disch := omega) only [go_sem, frzF, ctLpublic, ctLmsLen, ctLNum, ctOtsLen, ctKLeaves, ctLCand, ctKBottom, ctSame, lk1, K, lkC, LK.pk, hi, hit, hsm, hos, hel, hs4, hE, hE2, hEm, hEn, hEn', hn4, hk1, eq_true hq', reduceIte, seval, -BitVec.isValue, -BitVec.reduceOfNat, -List.reduceReplicate]
    · rw [lvE, hK]
      simp only [if_neg hlen]
      refine AW_run hct 1000 ?_
      simp (maxSteps := 10000000) (disch := omega) only [go_sem, frzF, ctLpublic, ctLmsLen, lk1, hi, hit, hsm, hos, eq_false hlen, reduceIte, seval, -BitVec.isValue, -BitVec.reduceOfNat, -List.reduceReplicate]
end Go.Lv
namespace Go.Lv
open Go Go.Proofs
set_option linter.unusedSimpArgs false
set_option maxRecDepth 100000
def vS (l : Lms) (id : By) (r : BitVec 64) (mk : BitVec 8) (t : By) : By := hsumS l.shake l.n.toNat (id ++ bigL r 4 ++ [mk, mk] ++ t)
theorem vS_lf {l : Lms} {o : Ots} (h : fitP l o) (id : By) (R : BitVec 32) (t : By) : vS l id (R.setWidth 64) 0x82 t = lfS o id R t := by
  rw [vS, lfS, hO, h.2.2.1, h.2.2.2, hdS]; rfl
set_option maxHeartbeats 2000000 in
theorem rValue_fun (l : Lms) (id : By) (r : BitVec 64) (mk : BitVec 8) (ps : List By) (hs : lmsSm l) (hid : id.length = 16) (hp1 : ps.length ≤ 1000) (hp2 : ps.flatten.length ≤ 100000000) :
    Fun Tryz.prog Gs 121 [Enc.enc l, Enc.enc (⟨id⟩ : Ar (BitVec 8)), Enc.enc r, Enc.enc mk, Enc.enc ps] (Enc.ret (vS l id r mk ps.flatten)) := by
  have hit : id.take 16 = id := List.take_of_length_le (by omega)
  have h4 := bigL_len r 4
  have hf : [id, bigL r 4, [mk, mk], ps.flatten].flatten = id ++ bigL r 4 ++ [mk, mk] ++ ps.flatten := by simp
  have hR : hsumS l.shake l.n.toNat (id ++ bigL r 4 ++ [mk, mk] ++ ps.flatten) = vS l id r mk ps.flatten := rfl
  have hl : (id ++ bigL r 4 ++ [mk, mk] ++ ps.flatten).length ≤ 1000000000 := by simp only [List.length_append, h4, hid, List.length_cons, List.length_nil]; omega
  obtain ⟨g1, g2, g3, g4⟩ := hs
  have hct := mark_ok 20 (mark_ok 23 (ctRBig_ok (ctJoin_ok (ctRSum_ok (CtOK_nil (P := Tryz.prog) (Gl := Gs))))))
  refine Fun_cc [] mo Tryz.func121 (by decide) cc121 rs121 Tryz.ntmps121 (by simp) (AW_run CtOK_nil 2 ?_)
  simp (maxSteps := 10000000) (disch := omega) only [go_sem, c121, hid, reduceIte, seval, -BitVec.isValue, -BitVec.reduceOfNat, -List.reduceReplicate]
  refine AW_freeze 1 [6] (seg := ⟨id.map .u8, true⟩) (by simp only [go_sem, reduceIte, seval, -BitVec.isValue, -BitVec.reduceOfNat, -List.reduceReplicate]) rfl (AW_ct [mark 20, mark 23, ctRBig, ctJoin, ctRSum] (AW_run hct 1000 ?_))
  simp (maxSteps := 10000000) (disch := omega) only [go_sem, frzF, hid, mark, ctRBig, ctJoin, ctRSum, hit, h4, hf, hl, hR, deL_cons, deL_nil, reduceIte, seval, -BitVec.isValue, -BitVec.reduceOfNat, -List.reduceReplicate]
  try simp
def ctRValue : Nat × (List AV → R) := (121, A5 fun (l : Lms) (id : Ar (BitVec 8)) (r : BitVec 64) (mk : BitVec 8) (ps : List By) => (lmsSm l ∧ id.l.length = 16 ∧ ps.length ≤ 1000 ∧ ps.flatten.length ≤ 100000000, Enc.ret (vS l id.l r mk ps.flatten)))
theorem ctRValue_ok {Ct : List (Nat × (List AV → R))} (h : CtOK Tryz.prog Gs Ct) : CtOK Tryz.prog Gs (ctRValue :: Ct) := CtOK_cons (Row5 fun l id r mk ps h => rValue_fun l id.l r mk ps h.1 h.2.1 h.2.2.1 h.2.2.2) h
def lW (H h j : Nat) : BitVec 64 := (lN H h j).setWidth 64
theorem lW_nat {H h j : Nat} (hH : H ≤ 25) (hj : j < 2 ^ 31) : (lW H h j).toNat = 2 ^ (H - h) + j := by
  have h25 : 2 ^ (H - h) ≤ 2 ^ 25 := Nat.pow_le_pow_right (n := 2) (by omega) (by omega)
  have e : (lN H h j).toNat = 2 ^ (H - h) + j := by rw [lN, BitVec.toNat_ofNat]; exact Nat.mod_eq_of_lt (by omega)
  rw [lW, BitVec.toNat_setWidth, e]
  exact Nat.mod_eq_of_lt (by omega)
theorem lW_0 {H : Nat} (hH : H ≤ 25) {q : BitVec 32} (hq : q.toNat < 2 ^ H) : pw H + q.setWidth 64 = lW H 0 q.toNat := by
  have h25 : 2 ^ H ≤ 2 ^ 25 := Nat.pow_le_pow_right (n := 2) (by omega) hH
  apply BitVec.eq_of_toNat_eq
  have e : (2 ^ H) % 2 ^ 64 = 2 ^ H := Nat.mod_eq_of_lt (by omega)
  rw [lW_nat hH (by omega), BitVec.toNat_add, pw, BitVec.toNat_ofNat, BitVec.toNat_setWidth, e, Nat.sub_zero]
  omega
end Go.Lv
namespace Go.Lv
open Go Go.Proofs
set_option linter.unusedSimpArgs false
set_option maxRecDepth 100000
end Go.Lv
namespace Go.Lv
open Go Go.Proofs
set_option linter.unusedSimpArgs false
set_option maxRecDepth 100000
def lS : Lms := ⟨4026531857, false, 24, 1⟩
def oS : Ots := ⟨6, false, 24, 2, 101, 6⟩
theorem lS_T : lmsT 4026531857 = some lS := by decide +kernel
theorem oS_T : otsT 6 = some oS := by decide +kernel
def kS : LK := ⟨lS, oS, List.replicate 16 0, List.replicate 24 0⟩
theorem kS_f : fitP lS oS := ⟨lS_T, oS_T, rfl, rfl⟩
theorem kS_ok : LKok kS := ⟨kS_f, rfl, rfl⟩
theorem kS_m : mdE kS.l kS.o kS.sd = 0 := by rw [mdE, if_pos kS_ok.f]; rfl
theorem kS_h : lS.h.toNat ≤ 4 := by decide
set_option maxHeartbeats 1000000 in
theorem small_fun : Fun Tryz.prog Gs 101 [] (.agg (lkR kS)) := by
  have hlR : lmsR (4026531857 : BitVec 32) = .tup [Enc.enc lS, .i 0] := by rw [lmsR, lS_T]
  have hoR : otsR (6 : BitVec 32) = .tup [Enc.enc oS, .i 0] := by rw [otsR, oS_T]
  have hct := ctRLms_ok (ctROts_ok (CtOK_nil (P := Tryz.prog) (Gl := Gs)))
  refine Fun_cc [ctLms 154, ctROts] mo Tryz.func101 (by decide) cc101 rs101 Tryz.ntmps101 (by simp) (AW_run hct 1000 ?_)
  simp (maxSteps := 10000000) (disch := omega) only [go_sem, c101, ctLms, ctROts, hlR, hoR, lkR, kS, lS, oS, reduceIte, seval, -BitVec.isValue, -BitVec.reduceOfNat, -List.reduceReplicate]
  rfl
def ctSmall : Nat × (List AV → R) := (101, A0 (True, .agg (lkR kS)))
theorem ctSmall_ok {Ct : List (Nat × (List AV → R))} (h : CtOK Tryz.prog Gs Ct) : CtOK Tryz.prog Gs (ctSmall :: Ct) := CtOK_cons (Row0 fun _ => small_fun) h
theorem lVerify_nil2 (sig : By) : Fun Tryz.prog Gs 47 [.ros true 0 [], .ros true 0 [], Enc.enc sig] (.i 81) := by
  have hR : pubR [] = .tup [.agg zk, .ros true 0 [], .b false] := rfl
  have hct := ctLpublic_ok (CtOK_nil (P := Tryz.prog) (Gl := Gs))
  refine Fun_cc _ mo Tryz.func47 (by decide) cc47 rs47 Tryz.ntmps47 (by simp) (AW_run hct 1000 ?_)
  simp (maxSteps := 10000000) (disch := omega) only [go_sem, c47, ctLpublic, hR, zk, reduceIte, seval, -BitVec.isValue, -BitVec.reduceOfNat, -List.reduceReplicate]
theorem lVerify_nil1 (pub msg : By) (k : LK) (hK : lvK pub = some k) : Fun Tryz.prog Gs 47 [Enc.enc pub, Enc.enc msg, .ros true 0 []] (.i 70) := by
  obtain ⟨hk, hsd, hpl, hl, ho, hid, hlp⟩ := lvK_ok hK
  have hR : pubR pub = .tup [.agg (lk1 k), Enc.enc (pub.drop 24), .b true] := by rw [pubR, hK]
  have hsm := lmsT_sm hk.lm
  have hos := otsSm_of hk.o
  have hon := hk.o.n
  have hop := hk.o.p
  have hol := otsLen_eq hk.ot
  have hi := hk.i
  have hks := hk.sm
  have hit : k.id.take 16 = k.id := List.take_of_length_le (by omega)
  have hll : ¬ (0 : Int) = lmsLen k.l k.o := by
    have e2 := mul_sm (A := 32) (B := 266) (a := k.o.n) (b := k.o.p + 1) (by omega) (by omega) (by omega) (by omega)
    have e1 := mul_sm (A := 25) (B := 32) hks.1 hks.2.1 hks.2.2.1 hks.2.2.2
    rw [lmsLen, if_pos hk.f]
    omega
  have hct := ctLpublic_ok (ctLmsLen_ok (CtOK_nil (P := Tryz.prog) (Gl := Gs)))
  refine Fun_cc _ mo Tryz.func47 (by decide) cc47 rs47 Tryz.ntmps47 (by simp) (AW_run hct 1000 ?_)
  simp (maxSteps := 10000000) (disch := omega) only [go_sem, c47, ctLpublic, hR, ctLmsLen, lk1, hi, hit, hsm, hos, eq_false hll, reduceIte, seval, -BitVec.isValue, -BitVec.reduceOfNat, -List.reduceReplicate]
def ctLVer (pub m sig : By) : Nat × (List AV → R) := (47, fun a => match a with
  | [.ros true _ _, _, _] => (a = [.ros true 0 [], .ros true 0 [], Enc.enc sig], .i 81)
  | [_, _, .ros true _ _] => (a = [Enc.enc pub, Enc.enc m, .ros true 0 []], .i 70)
  | _ => (a = [Enc.enc pub, Enc.enc m, Enc.enc sig], .i (lvE pub m sig)))
theorem ctLVer_ok {pub m sig : By} {k : LK} (hK : lvK pub = some k) (hm : m.length ≤ 140737488351232) {Ct : List (Nat × (List AV → R))} (h : CtOK Tryz.prog Gs Ct) : CtOK Tryz.prog Gs (ctLVer pub m sig :: Ct) := CtOK_cons (fun a h => by
  split at h
  · have h : _ = _ := h
    rw [h]; exact lVerify_nil2 sig
  · have h : _ = _ := h
    rw [h]; exact lVerify_nil1 pub m k hK
  · have h : _ = _ := h
    rw [h]; exact lVerify_fun pub m sig hm) h
theorem lPubS_fun : lpubR kS.l kS.o kS.id kS.sd = .tup [Enc.ret (lpubS' kS), .i 0] := by rw [lpubR, if_pos kS_m]
theorem kS_at : atE kS.l kS.o kS.sd 1#32 = 0 := by
  rw [atE, if_pos kS_m, if_neg (by decide)]
theorem lSigS_fun (m : By) : lsigR kS.l kS.o kS.id kS.sd 1#32 m = .tup [Enc.ret (lsigS kS 1#32 m), .i 0] := by rw [lsigR, if_pos kS_at]
theorem kS_own (m : By) : lvE (lpubS' kS) m (lsigS kS 1#32 m) = 0 := lms_own kS_ok (by decide) 1#32 (by decide) m
theorem kS_ix (m : By) : lixR (lsigS kS 1#32 m) = .tup [.u32 1#32, .i 0] := by
  obtain ⟨h1, _, _, _, _, h6⟩ := lsig_parts kS_ok 1#32 m
  rw [lixR, if_neg (by omega), h1]
set_option maxHeartbeats 4000000 in
theorem llive_fun : Fun Tryz.prog Gs 40 [] (.b true) := by
  have hP := lPubS_fun
  have hS := lSigS_fun [109]
  have hS' : lsigR kS.l kS.o kS.id kS.sd (1 : BitVec 32) [109] = _ := hS
  have hO := kS_own [109]
  have hI := kS_ix [109]
  have hK := (lpub_K kS_ok).1
  have hpl := lpubS'_len kS_ok
  have hm0 := kS_m
  have hh : kS.l.h.toNat ≤ 4 := kS_h
  have hid : kS.id.length = 16 := rfl
  have hsd : kS.sd.length = 24 := rfl
  have hit : kS.id.take 16 = kS.id := rfl
  obtain ⟨k, hk⟩ : ∃ k, k = kS := ⟨_, rfl⟩
  rw [← hk] at hP hS hS' hO hI hK hpl hm0 hh hid hsd hit
  have hct := ctSmall_ok (ctLPub_ok (ctLmSign_ok (ctLIndex_ok (ctLVer_ok (m := [109]) (sig := lsigS k 1#32 [109]) hK (by decide) (CtOK_nil (P := Tryz.prog) (Gl := Gs))))))
  refine Fun_cc [ctSmall, ctLPub 52, ctLmSign 42, ctLIndex, ctLVer (lpubS' k) [109] (lsigS k 1#32 [109])] mo Tryz.func40 (by decide) cc40 rs40 Tryz.ntmps40 (by simp) (AW_run hct 27 ?_)
  simp (maxSteps := 10000000) (disch := omega) only [go_sem, c40, ctSmall, ← hk, lkR, hP, hS, hS', hO, hI, hid, hit, hsd, hm0, hh, ctLPub, ctLmSign, ctLIndex, ctLVer, reduceIte, seval, -BitVec.isValue, -BitVec.reduceOfNat, -List.reduceReplicate]
  refine AW_cvs (id := 1) (n := 1) (bs := [109]) (e := 5) (by simp only [go_sem, reduceIte, seval, -BitVec.isValue, -BitVec.reduceOfNat, -List.reduceReplicate]) (by simp only [go_sem, reduceIte, seval, -BitVec.isValue, -BitVec.reduceOfNat, -List.reduceReplicate]) (by simp only [go_sem, reduceIte, seval, -BitVec.isValue, -BitVec.reduceOfNat, -List.reduceReplicate]; rfl) (Nat.le_of_ble_eq_true rfl) (by decide) (by rfl) ?_
  refine AW_ct [ctSmall, ctLPub 52, ctLmSign 42, ctLIndex, ctLVer (lpubS' k) [109] (lsigS k 1#32 [109])] (AW_run hct 38 ?_)
  simp (maxSteps := 10000000) (disch := omega) only [go_sem, ctSmall, ← hk, lkR, hP, hS, hS', hO, hI, hid, hit, hsd, hm0, hh, ctLPub, ctLmSign, ctLIndex, ctLVer, reduceIte, seval, -BitVec.isValue, -BitVec.reduceOfNat, -List.reduceReplicate]
  refine AW_gdT (by simp only [go_sem, reduceIte, seval, -BitVec.isValue, -BitVec.reduceOfNat, -List.reduceReplicate]) ?_
  refine AW_cvs (id := 2) (n := 1) (bs := [109]) (e := 5) (by simp only [go_sem, reduceIte, seval, -BitVec.isValue, -BitVec.reduceOfNat, -List.reduceReplicate]) (by simp only [go_sem, reduceIte, seval, -BitVec.isValue, -BitVec.reduceOfNat, -List.reduceReplicate]) (by simp only [go_sem, reduceIte, seval, -BitVec.isValue, -BitVec.reduceOfNat, -List.reduceReplicate]; rfl) (Nat.le_of_ble_eq_true rfl) (by decide) (by rfl) ?_
  refine AW_ct [ctSmall, ctLPub 52, ctLmSign 42, ctLIndex, ctLVer (lpubS' k) [109] (lsigS k 1#32 [109])] (AW_run hct 12 ?_)
  simp (maxSteps := 10000000) (disch := omega) only [go_sem, ctSmall, ← hk, lkR, hP, hS, hS', hO, hI, hid, hit, hsd, hm0, hh, ctLPub, ctLmSign, ctLIndex, ctLVer, reduceIte, seval, -BitVec.isValue, -BitVec.reduceOfNat, -List.reduceReplicate]
  refine AW_gdT (by simp only [go_sem, reduceIte, seval, -BitVec.isValue, -BitVec.reduceOfNat, -List.reduceReplicate]) ?_
  refine AW_cvs (id := 3) (n := 1) (bs := [109]) (e := 5) (by simp only [go_sem, reduceIte, seval, -BitVec.isValue, -BitVec.reduceOfNat, -List.reduceReplicate]) (by simp only [go_sem, reduceIte, seval, -BitVec.isValue, -BitVec.reduceOfNat, -List.reduceReplicate]) (by simp only [go_sem, reduceIte, seval, -BitVec.isValue, -BitVec.reduceOfNat, -List.reduceReplicate]; rfl) (Nat.le_of_ble_eq_true rfl) (by decide) (by rfl) ?_
  refine AW_ct [ctSmall, ctLPub 52, ctLmSign 42, ctLIndex, ctLVer (lpubS' k) [109] (lsigS k 1#32 [109])] (AW_run hct 1000 ?_)
  simp (maxSteps := 10000000) (disch := omega) only [go_sem, ctSmall, ← hk, lkR, hP, hS, hS', hO, hI, hid, hit, hsd, hm0, hh, ctLPub, ctLmSign, ctLIndex, ctLVer, reduceIte, seval, -BitVec.isValue, -BitVec.reduceOfNat, -List.reduceReplicate]
def ctLlive : Nat × (List AV → R) := (40, A0 (True, .b true))
theorem ctLlive_ok {Ct : List (Nat × (List AV → R))} (h : CtOK Tryz.prog Gs Ct) : CtOK Tryz.prog Gs (ctLlive :: Ct) := CtOK_cons (Row0 fun _ => llive_fun) h
end Go.Lv
