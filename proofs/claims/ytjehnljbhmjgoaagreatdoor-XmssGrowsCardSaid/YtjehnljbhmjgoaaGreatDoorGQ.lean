/- A part of the proof (GQ). -/
import Derived.Test.YtjehnljbhmjgoaaGreatDoorGE
import Derived.Test.YtjehnljbhmjgoaaGreatDoorGZ
import Derived.Test.YtjehnljbhmjgoaaGreatDoorGK
set_option linter.all false
namespace Go.Lv
open Go Go.Proofs
set_option linter.unusedSimpArgs false
set_option maxRecDepth 100000
def xsumS (sh : Bool) (n : Nat) (t : By) : By := if sh then (shakeS 256 32 t).take n else (sha256S t).take n
theorem xsumS_len (sh : Bool) (n : Nat) (t : By) (hn : n ≤ 32) : (xsumS sh n t).length = n := by
  unfold xsumS
  split
  · rw [List.length_take, shakeS_len]; omega
  · rw [List.length_take, sha256S_len]; omega
def headS (n : Int) (kind : BitVec 64) : By := List.replicate ((if n < 32 then 4 else 32) - 1) 0#8 ++ [kind.setWidth 8]
def xmC (x : Xms) : List AV := [.u32 x.code, .b x.shake, .i x.n, .i x.h, .i x.len]
def kfn (x : Xms) (hd : By) : AV := .fn (.func 238) [] [.rop true (xmC x), .rop true [.ros true hd.length (hd.map .u8)]]
set_option maxHeartbeats 1000000 in
theorem keyed1_fun (x : Xms) (hd key m : By) (hn : 0 ≤ x.n ∧ x.n ≤ 32) (h1 : hd.length ≤ 100000000) (h2 : key.length ≤ 100000000) (h3 : m.length ≤ 100000000) :
    Fun Tryz.prog Gs 238 [Enc.enc key, Enc.enc m, .rop false (xmC x), .rop false [Enc.enc hd]] (Enc.ret (xsumS x.shake x.n.toNat (hd ++ key ++ m))) := by
  refine Fun_cc [mark 16, mark 27, ctShake, ctSum256] mo Tryz.func238 (by decide) cc238 rs238 Tryz.ntmps238 (by simp) ?_
  have hct := mark_ok 16 (mark_ok 27 (ctShake_ok (ctSum256_ok CtOK_nil)))
  have hf : [hd, key, m].flatten = hd ++ key ++ m := by simp
  obtain ⟨t, ht⟩ : ∃ t, t = hd ++ key ++ m := ⟨_, rfl⟩
  have htl : t.length ≤ 300000000 := by rw [ht]; simp; omega
  rw [← ht] at hf ⊢
  have hbb := bb3 hd key m (by omega) (by omega) (by omega)
  obtain ⟨c, sh, n, hh, l⟩ := x
  simp only at hn
  have hsl := sha256S_len t
  have hst : (sha256S t).take 32 = sha256S t := List.take_of_length_le (by omega)
  have hkl := shakeS_len 256 32 t
  have hln := xsumS_len sh n.toNat t (by omega)
  have hnn : n ≤ 32 := hn.2
  cases sh
  · have hif : xsumS false n.toNat t = (sha256S t).take n.toNat := rfl
    rw [hif] at hln ⊢
    refine AW_run hct 1000 ?_
    simp (maxSteps := 10000000) (disch := omega) only [go_sem, c238, xmC, mark, ctShake, ctSum256, hf, hbb, hsl, hst, z32b, hln, deL_cons, deL_nil, reduceIte, seval, -BitVec.isValue, -BitVec.reduceOfNat, -List.reduceReplicate]
    have hz : List.drop 32 (List.replicate 32 (0 : BitVec 8)) = [] := rfl
    try rw [Nat.sub_zero, hz, List.append_nil]
  · have hif : xsumS true n.toNat t = (shakeS 256 32 t).take n.toNat := rfl
    rw [hif] at hln ⊢
    refine AW_run hct 1000 ?_
    simp (maxSteps := 10000000) (disch := omega) only [go_sem, c238, xmC, mark, ctShake, ctSum256, hf, hbb, ShakeR, hkl, hln, deL_cons, deL_nil, reduceIte, seval, -BitVec.isValue, -BitVec.reduceOfNat, -List.reduceReplicate]
    try simp
end Go.Lv
namespace Go.Lv
open Go Go.Proofs
set_option linter.unusedSimpArgs false
set_option maxRecDepth 100000
theorem xmsT_n {c : BitVec 32} {x : Xms} (h : xmsT c = some x) : (x.n = 24 ∧ x.len = 51) ∨ (x.n = 32 ∧ x.len = 67) := by
  unfold xmsT at h
  cases e : xmsF c with
  | none => rw [e] at h; cases h
  | some p =>
    rw [e] at h
    simp only [Option.map_some, Option.some.injEq] at h
    subst h
    simp only
    by_cases hp : p.1 % 2 = 1
    · simp [hp]
    · simp [hp]
def keyedR (x : Xms) (kind : BitVec 64) : AV := if xmsT x.code = some x then kfn x (headS x.n kind) else .nilfn
set_option maxHeartbeats 1000000 in
theorem keyed_fun (x : Xms) (kind : BitVec 64) : Fun Tryz.prog Gs 223 [Enc.enc x, Enc.enc kind] (keyedR x kind) := by
  refine Fun_cc [ctXmss 190] mo Tryz.func223 (by decide) cc223 rs223 Tryz.ntmps223 (by simp) ?_
  have hct := ctXmss_ok CtOK_nil
  by_cases h : xmsT x.code = some x
  · rw [keyedR, if_pos h]
    have hX : xmsR x.code = .tup [.agg [.u32 x.code, .b x.shake, .i x.n, .i x.h, .i x.len], .i 0] := by rw [xmsR, h]; rfl
    rcases xmsT_n h with ⟨hn, _⟩ | ⟨hn, _⟩
    · refine AW_run hct 1000 ?_
      simp (maxSteps := 10000000) (disch := omega) only [go_sem, c223, ctXmss, hX, eqL, eq1, hn, List.set_cons_zero, List.getD_cons_zero, reduceIte, seval, -BitVec.isValue, -BitVec.reduceOfNat, -List.reduceReplicate]
      simp [kfn, headS, xmC, hn]
    · refine AW_run hct 1000 ?_
      simp (maxSteps := 10000000) (disch := omega) only [go_sem, c223, ctXmss, hX, eqL, eq1, hn, List.set_cons_zero, List.getD_cons_zero, reduceIte, seval, -BitVec.isValue, -BitVec.reduceOfNat, -List.reduceReplicate]
      simp [kfn, headS, xmC, hn]
  · rw [keyedR, if_neg h]
    cases h2 : xmsT x.code with
    | none =>
      have hX : xmsR x.code = .tup [.agg [.u32 0, .b false, .i 0, .i 0, .i 0], .i 60] := by rw [xmsR, h2]; rfl
      refine AW_run hct 1000 ?_
      simp (maxSteps := 10000000) (disch := omega) only [go_sem, c223, ctXmss, hX, reduceIte, seval, -BitVec.isValue, -BitVec.reduceOfNat, -List.reduceReplicate]
      try simp
    | some y =>
      have hX : xmsR x.code = .tup [.agg [.u32 y.code, .b y.shake, .i y.n, .i y.h, .i y.len], .i 0] := by rw [xmsR, h2]; rfl
      have e : ¬ y = x := fun e => h (by rw [h2, e])
      have e2 : (decide (y.code = x.code) && (decide (y.shake = x.shake) && (decide (y.n = x.n) && (decide (y.h = x.h) && decide (y.len = x.len))))) = false := by
        simp only [← Bool.decide_and]; exact decide_eq_false fun ⟨a, b, c, d, f⟩ => e (by cases x; cases y; simp_all)
      refine AW_run hct 1000 ?_
      simp (maxSteps := 10000000) (disch := omega) only [go_sem, c223, ctXmss, hX, eqL, eq1, Bool.and_true, e2, reduceIte, seval, -BitVec.isValue, -BitVec.reduceOfNat, -List.reduceReplicate]
      try simp
end Go.Lv
namespace Go.Lv
open Go Go.Proofs
set_option linter.unusedSimpArgs false
set_option maxRecDepth 100000
def kyS (x : Xms) (kind : BitVec 64) (key m : By) : By := xsumS x.shake x.n.toNat (headS x.n kind ++ key ++ m)
def ctKeyed : Nat × (List AV → R) := (223, A2 fun (x : Xms) (k : BitVec 64) => (True, keyedR x k))
theorem ctKeyed_ok {Ct : List (Nat × (List AV → R))} (h : CtOK Tryz.prog Gs Ct) : CtOK Tryz.prog Gs (ctKeyed :: Ct) := CtOK_cons (Row2 fun x k _ => keyed_fun x k) h
def ctKeyed1 (x : Xms) (hd key m : By) : Nat × (List AV → R) := (238, fun a => (a = [Enc.enc key, Enc.enc m, .rop false (xmC x), .rop false [Enc.enc hd]], Enc.ret (xsumS x.shake x.n.toNat (hd ++ key ++ m))))
theorem ctKeyed1_ok {x : Xms} {hd key m : By} (hn : 0 ≤ x.n ∧ x.n ≤ 32) (h1 : hd.length ≤ 100000000) (h2 : key.length ≤ 100000000) (h3 : m.length ≤ 100000000) {Ct : List (Nat × (List AV → R))} (h : CtOK Tryz.prog Gs Ct) : CtOK Tryz.prog Gs (ctKeyed1 x hd key m :: Ct) := CtOK_cons (fun a e => by
  have e : a = [Enc.enc key, Enc.enc m, .rop false (xmC x), .rop false [Enc.enc hd]] := e
  subst e; exact keyed1_fun x hd key m hn h1 h2 h3) h
theorem headS_len (n : Int) (k : BitVec 64) : (headS n k).length = if n < 32 then 4 else 32 := by
  unfold headS; split <;> simp
def sumR (x : Xms) (kind : BitVec 64) (key m : By) : AV := if xmsT x.code = some x then Enc.ret (kyS x kind key m) else .ros true 0 []
set_option maxHeartbeats 1000000 in
theorem wsum_fun (x : Xms) (kind : BitVec 64) (key m : By) (h2 : key.length ≤ 100000000) (h3 : m.length ≤ 100000000) : Fun Tryz.prog Gs 211 [Enc.enc x, Enc.enc kind, Enc.enc key, Enc.enc m] (sumR x kind key m) := by
  by_cases h : xmsT x.code = some x
  · have hR : keyedR x kind = kfn x (headS x.n kind) := by rw [keyedR, if_pos h]
    rw [sumR, if_pos h]
    have hn : 0 ≤ x.n ∧ x.n ≤ 32 := by rcases xmsT_n h with ⟨h, _⟩ | ⟨h, _⟩ <;> omega
    have hl := headS_len x.n kind
    have hl2 : (headS x.n kind).length ≤ 100000000 := by rw [hl]; split <;> omega
    refine Fun_cc [ctKeyed, ctKeyed1 x (headS x.n kind) key m] mo Tryz.func211 (by decide) cc211 rs211 Tryz.ntmps211 (by simp) ?_
    have hct := ctKeyed_ok (ctKeyed1_ok hn hl2 h2 h3 CtOK_nil)
    obtain ⟨hd, hhd⟩ : ∃ hd, hd = headS x.n kind := ⟨_, rfl⟩
    rw [kyS]
    rw [← hhd] at hR hct ⊢
    refine AW_run hct 1000 ?_
    simp (maxSteps := 10000000) (disch := omega) only [go_sem, c211, ctKeyed, ctKeyed1, hR, kfn, xmC, reduceIte, seval, -BitVec.isValue, -BitVec.reduceOfNat, -List.reduceReplicate]
    try simp
  · have hR : keyedR x kind = .nilfn := by rw [keyedR, if_neg h]
    rw [sumR, if_neg h]
    refine Fun_cc [ctKeyed] mo Tryz.func211 (by decide) cc211 rs211 Tryz.ntmps211 (by simp) ?_
    refine AW_run (ctKeyed_ok CtOK_nil) 1000 ?_
    simp (maxSteps := 10000000) (disch := omega) only [go_sem, c211, ctKeyed, hR, reduceIte, seval, -BitVec.isValue, -BitVec.reduceOfNat, -List.reduceReplicate]
end Go.Lv
namespace Go.Lv
open Go Go.Proofs
set_option linter.unusedSimpArgs false
set_option maxRecDepth 100000
def ctWsum : Nat × (List AV → R) := (211, A4 fun (x : Xms) (kind : BitVec 64) (key m : By) => (key.length ≤ 100000000 ∧ m.length ≤ 100000000, sumR x kind key m))
theorem ctWsum_ok {Ct : List (Nat × (List AV → R))} (h : CtOK Tryz.prog Gs Ct) : CtOK Tryz.prog Gs (ctWsum :: Ct) := CtOK_cons (Row4 fun x k key m h => wsum_fun x k key m h.1 h.2) h
theorem wH_fun (x : Xms) (key m : By) (h2 : key.length ≤ 100000000) (h3 : m.length ≤ 100000000) : Fun Tryz.prog Gs 194 [Enc.enc x, Enc.enc key, Enc.enc m] (sumR x 1#64 key m) := by
  refine Fun_cc [ctWsum] mo Tryz.func194 (by decide) cc194 rs194 Tryz.ntmps194 (by simp) ?_
  by_cases h : xmsT x.code = some x
  · have hR : ∀ k, sumR x k key m = Enc.ret (kyS x k key m) := fun k => by rw [sumR, if_pos h]
    refine AW_run (ctWsum_ok CtOK_nil) 1000 ?_
    simp (maxSteps := 10000000) (disch := omega) only [go_sem, c194, ctWsum, hR, reduceIte, seval, -BitVec.isValue, -BitVec.reduceOfNat, -List.reduceReplicate]
    try simp
  · have hR : ∀ k, sumR x k key m = .ros true 0 [] := fun k => by rw [sumR, if_neg h]
    refine AW_run (ctWsum_ok CtOK_nil) 1000 ?_
    simp (maxSteps := 10000000) (disch := omega) only [go_sem, c194, ctWsum, hR, reduceIte, seval, -BitVec.isValue, -BitVec.reduceOfNat, -List.reduceReplicate]
    try simp
def ctWH : Nat × (List AV → R) := (194, A3 fun (x : Xms) (key m : By) => (key.length ≤ 100000000 ∧ m.length ≤ 100000000, sumR x 1#64 key m))
theorem ctWH_ok {Ct : List (Nat × (List AV → R))} (h : CtOK Tryz.prog Gs Ct) : CtOK Tryz.prog Gs (ctWH :: Ct) := CtOK_cons (Row3 fun x key m h => wH_fun x key m h.1 h.2) h
theorem wPrf_fun (x : Xms) (key m : By) (h2 : key.length ≤ 100000000) (h3 : m.length ≤ 100000000) : Fun Tryz.prog Gs 192 [Enc.enc x, Enc.enc key, Enc.enc m] (sumR x 3#64 key m) := by
  refine Fun_cc [ctWsum] mo Tryz.func192 (by decide) cc192 rs192 Tryz.ntmps192 (by simp) ?_
  by_cases h : xmsT x.code = some x
  · have hR : ∀ k, sumR x k key m = Enc.ret (kyS x k key m) := fun k => by rw [sumR, if_pos h]
    refine AW_run (ctWsum_ok CtOK_nil) 1000 ?_
    simp (maxSteps := 10000000) (disch := omega) only [go_sem, c192, ctWsum, hR, reduceIte, seval, -BitVec.isValue, -BitVec.reduceOfNat, -List.reduceReplicate]
    try simp
  · have hR : ∀ k, sumR x k key m = .ros true 0 [] := fun k => by rw [sumR, if_neg h]
    refine AW_run (ctWsum_ok CtOK_nil) 1000 ?_
    simp (maxSteps := 10000000) (disch := omega) only [go_sem, c192, ctWsum, hR, reduceIte, seval, -BitVec.isValue, -BitVec.reduceOfNat, -List.reduceReplicate]
    try simp
def ctWPrf : Nat × (List AV → R) := (192, A3 fun (x : Xms) (key m : By) => (key.length ≤ 100000000 ∧ m.length ≤ 100000000, sumR x 3#64 key m))
theorem ctWPrf_ok {Ct : List (Nat × (List AV → R))} (h : CtOK Tryz.prog Gs Ct) : CtOK Tryz.prog Gs (ctWPrf :: Ct) := CtOK_cons (Row3 fun x key m h => wPrf_fun x key m h.1 h.2) h
theorem wPrfKeygen_fun (x : Xms) (key m : By) (h2 : key.length ≤ 100000000) (h3 : m.length ≤ 100000000) : Fun Tryz.prog Gs 242 [Enc.enc x, Enc.enc key, Enc.enc m] (sumR x 4#64 key m) := by
  refine Fun_cc [ctWsum] mo Tryz.func242 (by decide) cc242 rs242 Tryz.ntmps242 (by simp) ?_
  by_cases h : xmsT x.code = some x
  · have hR : ∀ k, sumR x k key m = Enc.ret (kyS x k key m) := fun k => by rw [sumR, if_pos h]
    refine AW_run (ctWsum_ok CtOK_nil) 1000 ?_
    simp (maxSteps := 10000000) (disch := omega) only [go_sem, c242, ctWsum, hR, reduceIte, seval, -BitVec.isValue, -BitVec.reduceOfNat, -List.reduceReplicate]
    try simp
  · have hR : ∀ k, sumR x k key m = .ros true 0 [] := fun k => by rw [sumR, if_neg h]
    refine AW_run (ctWsum_ok CtOK_nil) 1000 ?_
    simp (maxSteps := 10000000) (disch := omega) only [go_sem, c242, ctWsum, hR, reduceIte, seval, -BitVec.isValue, -BitVec.reduceOfNat, -List.reduceReplicate]
    try simp
def ctWPrfKeygen : Nat × (List AV → R) := (242, A3 fun (x : Xms) (key m : By) => (key.length ≤ 100000000 ∧ m.length ≤ 100000000, sumR x 4#64 key m))
theorem ctWPrfKeygen_ok {Ct : List (Nat × (List AV → R))} (h : CtOK Tryz.prog Gs Ct) : CtOK Tryz.prog Gs (ctWPrfKeygen :: Ct) := CtOK_cons (Row3 fun x key m h => wPrfKeygen_fun x key m h.1 h.2) h
theorem oi64w (i : Nat) : BitVec.ofInt 64 (i : Int) = BitVec.ofNat 64 i := BitVec.ofInt_natCast 64 i
theorem headS_big24 (k : Nat) (h : k < 5) : headS 24 (BitVec.ofNat 64 k) = bigL (BitVec.ofNat 64 k) 4 := by
  rcases (by omega : k = 0 ∨ k = 1 ∨ k = 2 ∨ k = 3 ∨ k = 4) with rfl | rfl | rfl | rfl | rfl <;> decide
theorem headS_big32 (k : Nat) (h : k < 5) : headS 32 (BitVec.ofNat 64 k) = bigL (BitVec.ofNat 64 k) 32 := by
  rcases (by omega : k = 0 ∨ k = 1 ∨ k = 2 ∨ k = 3 ∨ k = 4) with rfl | rfl | rfl | rfl | rfl <;> decide
set_option maxHeartbeats 1000000 in
theorem rKeyed_fun (x : Xms) (k : Nat) (key m : By) (hk : k < 5) (hx : xmsT x.code = some x) (h2 : key.length ≤ 100000000) (h3 : m.length ≤ 100000000) :
    Fun Tryz.prog Gs 145 [Enc.enc x, Enc.enc (k : Int), Enc.enc key, Enc.enc m] (Enc.ret (kyS x (BitVec.ofNat 64 k) key m)) := by
  refine Fun_cc [mark 20, ctRBig, ctJoin, ctRShake, ctRSum256] mo Tryz.func145 (by decide) cc145 rs145 Tryz.ntmps145 (by simp) ?_
  have hct := mark_ok 20 (ctRBig_ok (ctJoin_ok (ctRShake_ok (ctRSum256_ok CtOK_nil))))
  have hoi := oi64w k
  have hN := xmsT_n hx
  have hb4 := bigL_len (BitVec.ofNat 64 k) 4
  have hb32 := bigL_len (BitVec.ofNat 64 k) 32
  obtain ⟨c, sh, n, hh, l⟩ := x
  simp only at hN
  rw [kyS]
  simp only
  rcases hN with ⟨rfl, _⟩ | ⟨rfl, _⟩
  · rw [headS_big24 k hk]
    have hf : [bigL (BitVec.ofNat 64 k) 4, key, m].flatten = bigL (BitVec.ofNat 64 k) 4 ++ key ++ m := by simp
    obtain ⟨t, ht⟩ : ∃ t, t = bigL (BitVec.ofNat 64 k) 4 ++ key ++ m := ⟨_, rfl⟩
    have htl : t.length ≤ 300000000 := by rw [ht]; simp [hb4]; omega
    rw [← ht] at hf ⊢
    have hsl := sha256S_len t
    have hkl := shakeS_len 256 32 t
    have hln := xsumS_len sh 24 t (by omega)
    cases sh
    · have hif : xsumS false 24 t = (sha256S t).take 24 := rfl
      rw [hif] at hln
      rw [show xsumS false (24 : Int).toNat t = (sha256S t).take 24 from rfl]
      refine AW_run hct 1000 ?_
      simp (maxSteps := 10000000) (disch := omega) only [go_sem, c145, mark, ctRBig, ctJoin, ctRShake, ctRSum256, hoi, hf, hb4, hsl, hln, deL_cons, deL_nil, reduceIte, seval, -BitVec.isValue, -BitVec.reduceOfNat, -List.reduceReplicate]
      try simp
    · have hif : xsumS true 24 t = (shakeS 256 32 t).take 24 := rfl
      rw [hif] at hln
      rw [show xsumS true (24 : Int).toNat t = (shakeS 256 32 t).take 24 from rfl]
      refine AW_run hct 1000 ?_
      simp (maxSteps := 10000000) (disch := omega) only [go_sem, c145, mark, ctRBig, ctJoin, ctRShake, ctRSum256, hoi, hf, hb4, hkl, hln, deL_cons, deL_nil, reduceIte, seval, -BitVec.isValue, -BitVec.reduceOfNat, -List.reduceReplicate]
      try simp
  · rw [headS_big32 k hk]
    have hf : [bigL (BitVec.ofNat 64 k) 32, key, m].flatten = bigL (BitVec.ofNat 64 k) 32 ++ key ++ m := by simp
    obtain ⟨t, ht⟩ : ∃ t, t = bigL (BitVec.ofNat 64 k) 32 ++ key ++ m := ⟨_, rfl⟩
    have htl : t.length ≤ 300000000 := by rw [ht]; simp [hb32]; omega
    rw [← ht] at hf ⊢
    have hsl := sha256S_len t
    have hkl := shakeS_len 256 32 t
    have hln := xsumS_len sh 32 t (by omega)
    cases sh
    · have hif : xsumS false 32 t = (sha256S t).take 32 := rfl
      rw [hif] at hln
      rw [show xsumS false (32 : Int).toNat t = (sha256S t).take 32 from rfl]
      refine AW_run hct 1000 ?_
      simp (maxSteps := 10000000) (disch := omega) only [go_sem, c145, mark, ctRBig, ctJoin, ctRShake, ctRSum256, hoi, hf, hb32, hsl, hln, deL_cons, deL_nil, reduceIte, seval, -BitVec.isValue, -BitVec.reduceOfNat, -List.reduceReplicate]
      try simp
    · have hif : xsumS true 32 t = (shakeS 256 32 t).take 32 := rfl
      rw [hif] at hln
      rw [show xsumS true (32 : Int).toNat t = (shakeS 256 32 t).take 32 from rfl]
      refine AW_run hct 1000 ?_
      simp (maxSteps := 10000000) (disch := omega) only [go_sem, c145, mark, ctRBig, ctJoin, ctRShake, ctRSum256, hoi, hf, hb32, hkl, hln, deL_cons, deL_nil, reduceIte, seval, -BitVec.isValue, -BitVec.reduceOfNat, -List.reduceReplicate]
      try simp
end Go.Lv
namespace Go.Lv
open Go Go.Proofs
set_option linter.unusedSimpArgs false
set_option maxRecDepth 100000
def ctRKeyed : Nat × (List AV → R) := (145, A4 fun (x : Xms) (k : Int) (key m : By) => (0 ≤ k ∧ k < 5 ∧ xmsT x.code = some x ∧ key.length ≤ 100000000 ∧ m.length ≤ 100000000, Enc.ret (kyS x (BitVec.ofNat 64 k.toNat) key m)))
theorem ctRKeyed_ok {Ct : List (Nat × (List AV → R))} (h : CtOK Tryz.prog Gs Ct) : CtOK Tryz.prog Gs (ctRKeyed :: Ct) := CtOK_cons (Row4 fun x k key m h => by
  obtain ⟨h1, h2, h3, h4, h5⟩ := h
  obtain ⟨k, rfl⟩ := Int.eq_ofNat_of_zero_le h1
  exact rKeyed_fun x k key m (by omega) h3 h4 h5) h
end Go.Lv
namespace Go.Lv
open Go Go.Proofs
set_option linter.unusedSimpArgs false
set_option maxRecDepth 100000
def wd4 (w : BitVec 32) : By := bigL (w.setWidth 64) 4
def adrS (ws : List (BitVec 32)) : By := (ws.map wd4).flatten
theorem adrS_len (ws : List (BitVec 32)) : (adrS ws).length = 4 * ws.length := by
  induction ws with
  | nil => rfl
  | cons w ws ih => simp only [adrS, List.map_cons, List.flatten_cons, List.length_append, List.length_cons] at ih ⊢; rw [ih, wd4, bigL_len]; omega
theorem adrS_take (ws : List (BitVec 32)) (k : Nat) (h : k < ws.length) : adrS (ws.take (k + 1)) = adrS (ws.take k) ++ wd4 (ws.getD k 0) := by
  rw [List.take_succ, adrS, List.map_append, List.flatten_append, ← adrS]
  simp [List.getElem?_eq_getElem h, List.getD_eq_getElem?_getD]
def σrad (ws : List (BitVec 32)) (k : Nat) : St := ⟨[(1, .ptr 0 0), (3, Enc.ret (adrS (ws.take k))), (6, .i k)], [(0, ⟨ws.map .u32, true⟩)], 1⟩
set_option maxHeartbeats 1000000 in
theorem rBytes_fun (ws : List (BitVec 32)) (hw : ws.length = 8) : Fun Tryz.prog Gs 146 [Enc.enc (⟨ws⟩ : Ar (BitVec 32))] (Enc.ret (adrS ws)) := by
  refine Fun_cc [mark 5, mark 15, ctRBig, ctJoin] mo Tryz.func146 (by decide) cc146 rs146 Tryz.ntmps146 (by simp) ?_
  have hct := mark_ok 5 (mark_ok 15 (ctRBig_ok (ctJoin_ok CtOK_nil)))
  refine AW_run hct 1000 ?_
  simp (maxSteps := 10000000) (disch := omega) only [go_sem, c146, mark, ctRBig, ctJoin, hw, reduceIte, seval, -BitVec.isValue, -BitVec.reduceOfNat, -List.reduceReplicate]
  refine AW_loop (σrad ws) (fun k => k ≤ 8) (fun k => 8 - k) 0 (Nat.zero_le _) (Wk_p [] ?_) fun k hk => ?_
  · simp only [go_sem, σrad, reduceIte, seval, -BitVec.isValue, -BitVec.reduceOfNat, -List.reduceReplicate]
    try simp [adrS]
  · have hl := adrS_len (ws.take k)
    have htl : (ws.take k).length = k := by simp; omega
    refine AW_ct [mark 5, mark 15, ctRBig, ctJoin] (AW_run hct 1000 ?_)
    by_cases hc : k < 8
    · have hc' : (k : Int) < 8 := by omega
      have hs := adrS_take ws k (by omega)
      have hb := bigL_len ((ws.getD k 0).setWidth 64) 4
      have hf : [adrS (ws.take k), bigL ((ws.getD k 0).setWidth 64) 4].flatten = adrS (ws.take (k + 1)) := by rw [hs, wd4]; simp
      have hl2 := adrS_len (ws.take (k + 1))
      have htl2 : (ws.take (k + 1)).length = k + 1 := by simp; omega
      simp (maxSteps := 10000000) (disch := omega) only [go_sem, σrad, mark, ctRBig, ctJoin, hc', hw, hf, hb, deL_cons, deL_nil, reduceIte, seval, -BitVec.isValue, -BitVec.reduceOfNat, -List.reduceReplicate]
      refine ⟨k + 1, by omega, Wk_p [] ?_, by omega⟩
      simp only [go_sem, σrad, reduceIte, seval, -BitVec.isValue, -BitVec.reduceOfNat, -List.reduceReplicate]
      try simp
    · have : k = 8 := by omega
      subst this
      have ht8 : ws.take 8 = ws := List.take_of_length_le (by omega)
      simp (maxSteps := 10000000) (disch := omega) only [go_sem, σrad, mark, ctRBig, ctJoin, hw, ht8, reduceIte, seval, -BitVec.isValue, -BitVec.reduceOfNat, -List.reduceReplicate]
      try simp
end Go.Lv
namespace Go.Lv
open Go Go.Proofs
set_option linter.unusedSimpArgs false
set_option maxRecDepth 100000
def adrA (ws : List (BitVec 32)) (k : Nat) : By := adrS (ws.take k) ++ List.replicate (32 - 4 * k) 0#8
theorem adrA_len (ws : List (BitVec 32)) (k : Nat) (hw : ws.length = 8) (hk : k ≤ 8) : (adrA ws k).length = 32 := by
  rw [adrA, List.length_append, adrS_len, List.length_replicate, List.length_take]; omega
theorem adrA_cpy (ws : List (BitVec 32)) (k : Nat) (hw : ws.length = 8) (hk : k < 8) : (adrA ws k).take (4 * k) ++ wd4 (ws.getD k 0) ++ (adrA ws k).drop (4 * k + 4) = adrA ws (k + 1) := by
  have hl : (adrS (ws.take k)).length = 4 * k := by rw [adrS_len, List.length_take]; omega
  rw [adrA, List.take_append_of_le_length (by omega), List.take_of_length_le (by omega), List.drop_append, List.drop_of_length_le (by omega), adrA, adrS_take ws k (by omega), hl, List.drop_replicate]
  simp only [List.nil_append]
  congr 2
  omega
theorem adrA_zero (ws : List (BitVec 32)) : adrA ws 0 = List.replicate 32 0#8 := rfl
theorem adrA_all (ws : List (BitVec 32)) (hw : ws.length = 8) : adrA ws 8 = adrS ws := by
  rw [adrA, List.take_of_length_le (by omega)]; simp
theorem zer32 : (List.replicate 32 0#8).map AV.u8 = [AV.u8 0#8, AV.u8 0#8, AV.u8 0#8, AV.u8 0#8, AV.u8 0#8, AV.u8 0#8, AV.u8 0#8, AV.u8 0#8, AV.u8 0#8, AV.u8 0#8, AV.u8 0#8, AV.u8 0#8, AV.u8 0#8, AV.u8 0#8, AV.u8 0#8, AV.u8 0#8, AV.u8 0#8, AV.u8 0#8, AV.u8 0#8, AV.u8 0#8, AV.u8 0#8, AV.u8 0#8, AV.u8 0#8, AV.u8 0#8, AV.u8 0#8, AV.u8 0#8, AV.u8 0#8, AV.u8 0#8, AV.u8 0#8, AV.u8 0#8, AV.u8 0#8, AV.u8 0#8] := rfl
def σba (ws : List (BitVec 32)) (k : Nat) : St := ⟨[(2, .ptr 1 0), (3, .ptr 2 0), (6, .agg (ws.map .u32)), (7, .i k)], [(1, ⟨(List.replicate 32 0#8).map .u8, true⟩), (2, ⟨(adrA ws k).map .u8, true⟩)], 3⟩
set_option maxHeartbeats 1000000 in
theorem wBytes_fun (ws : List (BitVec 32)) (hw : ws.length = 8) : Fun Tryz.prog Gs 191 [Enc.enc (⟨ws⟩ : Ar (BitVec 32))] (.agg ((adrS ws).map .u8)) := by
  refine Fun_cc [ctU32] mo Tryz.func191 (by decide) cc191 rs191 Tryz.ntmps191 (by simp) ?_
  have hct := ctU32_ok CtOK_nil
  have hwt : (ws.map AV.u32).take 8 = ws.map AV.u32 := List.take_of_length_le (by simp [hw])
  refine AW_run hct 1000 ?_
  simp (maxSteps := 10000000) (disch := omega) only [go_sem, c191, ctU32, hw, hwt, reduceIte, seval, -BitVec.isValue, -BitVec.reduceOfNat, -List.reduceReplicate]
  refine AW_loop (σba ws) (fun k => k ≤ 8) (fun k => 8 - k) 0 (Nat.zero_le _) (Wk_p [] ?_) fun k hk => ?_
  · simp only [go_sem, σba, adrA_zero, zer32, reduceIte, seval, -BitVec.isValue, -BitVec.reduceOfNat, -List.reduceReplicate]
    try simp [hw]
  · have hal := adrA_len ws k hw hk
    refine AW_ct [ctU32] (AW_run hct 1000 ?_)
    by_cases hc : k < 8
    · have hc' : (k : Int) < 8 := by omega
      have hcp := adrA_cpy ws k hw hc
      have hb := bigL_len ((ws.getD k 0).setWidth 64) 4
      have e4 : ((4 : Int) * k).toNat = 4 * k := by omega
      simp (maxSteps := 10000000) (disch := omega) only [go_sem, σba, ctU32, hc', hw, hal, hb, e4, zer32, reduceIte, seval, -BitVec.isValue, -BitVec.reduceOfNat, -List.reduceReplicate]
      rw [wd4] at hcp
      have hbt : (bigL ((ws.getD k 0).setWidth 64) 4).take 4 = bigL ((ws.getD k 0).setWidth 64) 4 := List.take_of_length_le (by omega)
      refine ⟨k + 1, by omega, Wk_p [] ?_, by omega⟩
      simp only [go_sem, σba, zer32, hbt, Nat.min_self, hcp, reduceIte, seval, -BitVec.isValue, -BitVec.reduceOfNat, -List.reduceReplicate]
      try simp
    · have : k = 8 := by omega
      subst this
      have ha := adrA_all ws hw
      have hal8 : (adrS ws).length = 32 := by rw [adrS_len]; omega
      have hat : ((adrS ws).map AV.u8).take 32 = (adrS ws).map AV.u8 := List.take_of_length_le (by simp [hal8])
      simp (maxSteps := 10000000) (disch := omega) only [go_sem, σba, ctU32, hw, ha, hal8, hat, zer32, reduceIte, seval, -BitVec.isValue, -BitVec.reduceOfNat, -List.reduceReplicate]
      try simp
end Go.Lv
namespace Go.Lv
open Go Go.Proofs
set_option linter.unusedSimpArgs false
set_option maxRecDepth 100000
def ctWBytes : Nat × (List AV → R) := (191, A1 fun a : Ar (BitVec 32) => (a.l.length = 8, .agg ((adrS a.l).map .u8)))
theorem ctWBytes_ok {Ct : List (Nat × (List AV → R))} (h : CtOK Tryz.prog Gs Ct) : CtOK Tryz.prog Gs (ctWBytes :: Ct) := CtOK_cons (Row1 fun a h => wBytes_fun a.l h) h
def ctRBytes8 : Nat × (List AV → R) := (146, A1 fun a : Ar (BitVec 32) => (a.l.length = 8, Enc.ret (adrS a.l)))
theorem ctRBytes8_ok {Ct : List (Nat × (List AV → R))} (h : CtOK Tryz.prog Gs Ct) : CtOK Tryz.prog Gs (ctRBytes8 :: Ct) := CtOK_cons (Row1 fun a h => rBytes_fun a.l h) h
def lenP (n : Int) (ps : List By) (k : Nat) : Prop := ∀ j, j < k → ((ps.getD j []).length : Int) = n
def wmayE (x : Xms) (ps : List By) : Int := if xmsT x.code = some x then (if ∀ p ∈ ps, (p.length : Int) = x.n then 0 else 1) else 60
def σwm (x : Xms) (ps : List By) (k : Nat) : St := ⟨[(2, .ptr 0 0), (22, Enc.enc ps), (23, .i ps.length), (24, .i k)], [(0, ⟨xmC x, true⟩)], 1⟩
theorem lenP_all {n : Int} {ps : List By} (h : lenP n ps ps.length) : ∀ p ∈ ps, (p.length : Int) = n := by
  intro p hp
  obtain ⟨j, hj, rfl⟩ := List.getElem_of_mem hp
  have := h j hj
  simpa [List.getD_eq_getElem?_getD, hj] using this
set_option maxHeartbeats 1000000 in
theorem wmay_fun (x : Xms) (ps : List By) (hp : bbOK ps) : Fun Tryz.prog Gs 215 [Enc.enc x, Enc.enc ps] (.i (wmayE x ps)) := by
  refine Fun_cc [ctXmss 190] mo Tryz.func215 (by decide) cc215 rs215 Tryz.ntmps215 (by simp) ?_
  have hct := ctXmss_ok CtOK_nil
  obtain ⟨hp0, hp1⟩ := hp
  by_cases h : xmsT x.code = some x
  · rw [wmayE, if_pos h]
    have hX : xmsR x.code = .tup [.agg [.u32 x.code, .b x.shake, .i x.n, .i x.h, .i x.len], .i 0] := by rw [xmsR, h]; rfl
    refine AW_run hct 1000 ?_
    simp (maxSteps := 10000000) (disch := omega) only [go_sem, c215, ctXmss, hX, eqL, eq1, reduceIte, seval, -BitVec.isValue, -BitVec.reduceOfNat, -List.reduceReplicate]
    refine AW_loop (σwm x ps) (fun k => k ≤ ps.length ∧ lenP x.n ps k) (fun k => ps.length - k) 0 ⟨Nat.zero_le _, fun j hj => absurd hj (Nat.not_lt_zero j)⟩ (Wk_p [] ?_) fun k hk => ?_
    · simp only [go_sem, σwm, xmC, reduceIte, seval, -BitVec.isValue, -BitVec.reduceOfNat, -List.reduceReplicate]
      try simp
    · obtain ⟨hk, hl⟩ := hk
      refine AW_ct [ctXmss 190] (AW_run hct 1000 ?_)
      by_cases hc : k < ps.length
      · have hc' : (k : Int) < ps.length := by omega
        by_cases hq : ((ps.getD k []).length : Int) = x.n
        · simp (maxSteps := 10000000) (disch := omega) only [go_sem, σwm, xmC, hc', eq_true hq, reduceIte, seval, -BitVec.isValue, -BitVec.reduceOfNat, -List.reduceReplicate]
          refine ⟨k + 1, ⟨by omega, fun j hj => ?_⟩, Wk_p [] ?_, by omega⟩
          · by_cases e : j < k
            · exact hl j e
            · rw [show j = k by omega]; exact hq
          · simp only [go_sem, σwm, xmC, reduceIte, seval, -BitVec.isValue, -BitVec.reduceOfNat, -List.reduceReplicate]
            try simp
        · have hn : ¬ ∀ p ∈ ps, (p.length : Int) = x.n := fun ha => hq (by
            have := ha (ps[k]) (List.getElem_mem hc)
            simpa [List.getD_eq_getElem?_getD, hc] using this)
          rw [if_neg hn]
          simp (maxSteps := 10000000) (disch := omega) only [go_sem, σwm, xmC, hc', eq_false hq, reduceIte, seval, -BitVec.isValue, -BitVec.reduceOfNat, -List.reduceReplicate]
          try simp
      · have : k = ps.length := by omega
        subst this
        rw [if_pos (lenP_all hl)]
        simp (maxSteps := 10000000) (disch := omega) only [go_sem, σwm, xmC, reduceIte, seval, -BitVec.isValue, -BitVec.reduceOfNat, -List.reduceReplicate]
        try simp
  · rw [wmayE, if_neg h]
    cases h2 : xmsT x.code with
    | none =>
      have hX : xmsR x.code = .tup [.agg [.u32 0, .b false, .i 0, .i 0, .i 0], .i 60] := by rw [xmsR, h2]; rfl
      refine AW_run hct 1000 ?_
      simp (maxSteps := 10000000) (disch := omega) only [go_sem, c215, ctXmss, hX, reduceIte, seval, -BitVec.isValue, -BitVec.reduceOfNat, -List.reduceReplicate]
      try simp
    | some y =>
      have hX : xmsR x.code = .tup [.agg [.u32 y.code, .b y.shake, .i y.n, .i y.h, .i y.len], .i 0] := by rw [xmsR, h2]; rfl
      have e : ¬ y = x := fun e => h (by rw [h2, e])
      have e2 : (decide (y.code = x.code) && (decide (y.shake = x.shake) && (decide (y.n = x.n) && (decide (y.h = x.h) && decide (y.len = x.len))))) = false := by
        simp only [← Bool.decide_and]; exact decide_eq_false fun ⟨a, b, c, d, f⟩ => e (by cases x; cases y; simp_all)
      refine AW_run hct 1000 ?_
      simp (maxSteps := 10000000) (disch := omega) only [go_sem, c215, ctXmss, hX, eqL, eq1, Bool.and_true, e2, reduceIte, seval, -BitVec.isValue, -BitVec.reduceOfNat, -List.reduceReplicate]
      try simp
def ctWmay : Nat × (List AV → R) := (215, A2 fun (x : Xms) (ps : List By) => (bbOK ps, .i (wmayE x ps)))
theorem ctWmay_ok {Ct : List (Nat × (List AV → R))} (h : CtOK Tryz.prog Gs Ct) : CtOK Tryz.prog Gs (ctWmay :: Ct) := CtOK_cons (Row2 fun x ps h => wmay_fun x ps h) h
end Go.Lv
namespace Go.Lv
open Go Go.Proofs
set_option linter.unusedSimpArgs false
set_option maxRecDepth 100000
def fewP (ps : List By) : Prop := ∀ p ∈ ps, p.length ≤ 5000
instance (ps : List By) : Decidable (fewP ps) := by unfold fewP; infer_instance
end Go.Lv
namespace Go.Lv
open Go Go.Proofs
set_option linter.unusedSimpArgs false
set_option maxRecDepth 100000
end Go.Lv
namespace Go.Lv
open Go Go.Proofs
set_option linter.unusedSimpArgs false
set_option maxRecDepth 100000
end Go.Lv
namespace Go.Lv
open Go Go.Proofs
set_option linter.unusedSimpArgs false
set_option maxRecDepth 100000
end Go.Lv
namespace Go.Lv
open Go Go.Proofs
set_option linter.unusedSimpArgs false
set_option maxRecDepth 100000
end Go.Lv
namespace Go.Lv
open Go Go.Proofs
set_option linter.unusedSimpArgs false
set_option maxRecDepth 100000
end Go.Lv
namespace Go.Lv
open Go Go.Proofs
set_option linter.unusedSimpArgs false
set_option maxRecDepth 100000
def withS (ws : List (BitVec 32)) (step which : BitVec 32) : List (BitVec 32) := (ws.set 6 step).set 7 which
theorem withS_len (ws : List (BitVec 32)) (s w : BitVec 32) : (withS ws s w).length = ws.length := by simp [withS]
end Go.Lv
namespace Go.Lv
open Go Go.Proofs
set_option linter.unusedSimpArgs false
set_option maxRecDepth 100000
def xorL (a b : By) : By := List.zipWith (· ^^^ ·) a b
theorem xorL_len (a b : By) (h : a.length = b.length) : (xorL a b).length = a.length := by simp [xorL, h]
def sum32 (sh : Bool) (t : By) : By := if sh then shakeS 256 32 t else sha256S t
theorem sum32_len (sh : Bool) (t : By) : (sum32 sh t).length = 32 := by
  unfold sum32; split
  · exact shakeS_len 256 32 t
  · exact sha256S_len t
theorem xsumS_32 (sh : Bool) (n : Nat) (t : By) : xsumS sh n t = (sum32 sh t).take n := by unfold xsumS sum32; split <;> rfl
theorem kyS_len {x : Xms} (h : xmsT x.code = some x) (k : BitVec 64) (key m : By) : (kyS x k key m).length = x.n.toNat := by
  unfold kyS; exact xsumS_len _ _ _ (by rcases xmsT_n h with ⟨h, _⟩ | ⟨h, _⟩ <;> omega)
def maskT (x : Xms) (seed : By) (ws : List (BitVec 32)) (s w : BitVec 32) : By := headS x.n 3#64 ++ seed ++ adrS (withS ws s w)
def maskS (x : Xms) (seed : By) (ws : List (BitVec 32)) (s w : BitVec 32) : By := kyS x 3#64 seed (adrS (withS ws s w))
theorem maskS_32 (x : Xms) (seed : By) (ws : List (BitVec 32)) (s w : BitVec 32) : maskS x seed ws s w = (sum32 x.shake (maskT x seed ws s w)).take x.n.toNat := xsumS_32 ..
def stepS (x : Xms) (seed : By) (ws : List (BitVec 32)) (s : Nat) (b : By) : By := kyS x 0#64 (maskS x seed ws (BitVec.ofInt 32 s) 0#32) (xorL b (maskS x seed ws (BitVec.ofInt 32 s) 1#32))
def goS (x : Xms) (seed : By) (ws : List (BitVec 32)) (from' : Nat) : Nat → By → By
  | 0, b => b
  | k + 1, b => stepS x seed ws (from' + k) (goS x seed ws from' k b)
theorem goS_len {x : Xms} (h : xmsT x.code = some x) (seed : By) (ws : List (BitVec 32)) (f : Nat) : ∀ (k : Nat) (b : By), b.length = x.n.toNat → (goS x seed ws f k b).length = x.n.toNat
  | 0, b, hb => hb
  | k + 1, b, _ => kyS_len h _ _ _
def mixL (b M : By) (i : Nat) : By := fillL M.length (fun j => M.getD j 0 ^^^ b.getD j 0) (fun j => M.getD j 0) i
theorem mixL_len (b M : By) (i : Nat) : (mixL b M i).length = M.length := fillL_len ..
theorem mixL_zero (b M : By) : mixL b M 0 = M := fill80 _ rfl
theorem mixL_set (b M : By) (i : Nat) (h : i < M.length) : (mixL b M i).set i (M.getD i 0 ^^^ b.getD i 0) = mixL b M (i + 1) := fillL_set h
theorem mixL_get (b M : By) (i : Nat) (h : i < M.length) : (mixL b M i).getD i 0 = M.getD i 0 := by
  simp [mixL, fillL, List.getD_eq_getElem?_getD, h]
theorem mixL_all (b M : By) (n : Nat) (hb : b.length = n) (hn : n ≤ M.length) : (mixL b M n).take n = xorL b (M.take n) := by
  apply List.ext_getElem
  · simp [mixL_len, xorL, hb]; 
  · intro i h1 h2
    have hi : i < n := by simp [mixL_len] at h1; omega
    have e1 : i < M.length := by omega
    have e2 : i < b.length := by omega
    simp [mixL, fillL, xorL, hi, List.getD_eq_getElem?_getD, e1, e2, BitVec.xor_comm]
def bq (x : BitVec 8) (k : Nat) : Nat := x.toNat / 2 ^ k
def br (x : BitVec 8) (k : Nat) : Nat := x.toNat % 2 ^ k
def bw (k : Nat) : Nat := 2 ^ k
def bitS (x : BitVec 8) (k : Nat) : Bool := decide (((bq x k : Nat) : Int) % 2 = 1)
def bitsX (x : BitVec 8) (k : Nat) : List Bool := (List.range k).map (bitS x)
def bitsL (b : By) : List Bool := b.flatMap fun x => bitsX x 8
theorem getD_app1 {α : Type} (l m : List α) (i : Nat) (d : α) (h : i < l.length) : (l ++ m).getD i d = l.getD i d := by simp [List.getD_eq_getElem?_getD, List.getElem?_append_left h]
theorem getD_app2 {α : Type} (l m : List α) (i : Nat) (d : α) (h : l.length ≤ i) : (l ++ m).getD i d = m.getD (i - l.length) d := by simp [List.getD_eq_getElem?_getD, List.getElem?_append_right h]
theorem bitS_iff (x : BitVec 8) (k : Nat) : bitS x k = true ↔ bq x k % 2 = 1 := by simp only [bitS, decide_eq_true_eq]; omega
theorem bitsX_len (x : BitVec 8) (k : Nat) : (bitsX x k).length = k := by simp [bitsX]
theorem bitsX_succ (x : BitVec 8) (k : Nat) : bitsX x (k + 1) = bitsX x k ++ [bitS x k] := by simp [bitsX, List.range_succ]
theorem bitsL_len (b : By) : (bitsL b).length = 8 * b.length := by
  induction b with
  | nil => rfl
  | cons x b ih => simp only [bitsL, List.flatMap_cons, List.length_append, List.length_cons] at ih ⊢; rw [ih, bitsX_len]; omega
theorem bitsL_take (b : By) (k : Nat) (h : k < b.length) : bitsL (b.take (k + 1)) = bitsL (b.take k) ++ bitsX (b.getD k 0) 8 := by
  rw [List.take_succ, bitsL, List.flatMap_append, ← bitsL]
  simp [List.getElem?_eq_getElem h, List.getD_eq_getElem?_getD]
theorem bitsL_get (b : By) (j t : Nat) (hj : j < b.length) (ht : t < 8) : (bitsL b).getD (8 * j + t) false = bitS (b.getD j 0) t := by
  induction b generalizing j with
  | nil => simp at hj
  | cons x b ih =>
    have hl := bitsX_len x 8
    simp only [bitsL, List.flatMap_cons] at ih ⊢
    cases j with
    | zero =>
      rw [getD_app1 _ _ _ _ (by omega)]
      simp [bitsX, List.getD_eq_getElem?_getD, ht]
    | succ j =>
      rw [getD_app2 _ _ _ _ (by omega), show 8 * (j + 1) + t - (bitsX x 8).length = 8 * j + t by omega, ih j (by simpa using hj)]
      simp
theorem bq_zero (x : BitVec 8) : bq x 0 = x.toNat := by simp [bq]
theorem bq_le (x : BitVec 8) (k : Nat) : bq x k ≤ 255 := by
  have := x.isLt
  have h2 := Nat.div_le_self x.toNat (2 ^ k)
  simp only [bq]; omega
theorem bq_div (x : BitVec 8) (k : Nat) : ((bq x k : Nat) : Int) / 2 = ((bq x (k + 1) : Nat) : Int) := by
  simp only [bq]
  rw [show (2 : Int) = ((2 : Nat) : Int) from rfl, ← Int.natCast_ediv, Nat.div_div_eq_div_mul, Nat.pow_succ]
theorem br_le (x : BitVec 8) (k : Nat) : br x k ≤ 255 := by
  have := x.isLt
  have h2 := Nat.mod_le x.toNat (2 ^ k)
  simp only [br]; omega
theorem bw_le (k : Nat) (h : k ≤ 8) : bw k ≤ 256 := Nat.pow_le_pow_right (by omega) h
theorem bw_succ (k : Nat) : ((bw k : Nat) : Int) * 2 = ((bw (k + 1) : Nat) : Int) := by simp [bw, Nat.pow_succ]
theorem br_add (x : BitVec 8) (t : Nat) : br x (t + 1) = br x t + (if bitS x t = true then bw t else 0) := by
  have hb := bitS_iff x t
  have h2 : bq x t % 2 = 0 ∨ bq x t % 2 = 1 := by omega
  have e : br x (t + 1) = br x t + bw t * (bq x t % 2) := Nat.mod_pow_succ
  rcases h2 with h | h
  · rw [if_neg (fun e => by have := hb.1 e; omega), e, h]; omega
  · rw [if_pos (hb.2 h), e, h]; omega
theorem br_all (x : BitVec 8) : BitVec.ofInt 8 ((br x 8 : Nat) : Int) = x := by
  apply BitVec.eq_of_toNat_eq
  have := x.isLt
  rw [BitVec.ofInt_natCast, BitVec.toNat_ofNat, br]
  omega
theorem bitS_lsb (z : BitVec 8) (t : Nat) : bitS z t = z.getLsbD t := by
  have hb := bitS_iff z t
  have e : z.getLsbD t = (z.toNat / 2 ^ t % 2 != 0) := by
    rw [BitVec.getLsbD, Nat.testBit, Nat.shiftRight_eq_div_pow, Nat.one_and_eq_mod_two]
  have h2 : bq z t % 2 = 0 ∨ bq z t % 2 = 1 := by omega
  rw [e, show z.toNat / 2 ^ t = bq z t from rfl]
  rcases h2 with h | h
  · rw [h]
    exact Bool.eq_false_iff.2 fun e => by have := hb.1 e; omega
  · rw [h, hb.2 h]; rfl
theorem bitS_xor (x y : BitVec 8) (t : Nat) : (bitS x t != bitS y t) = bitS (x ^^^ y) t := by
  rw [bitS_lsb, bitS_lsb, bitS_lsb, BitVec.getLsbD_xor]
theorem xorL_get (a b : By) (j : Nat) (h : a.length = b.length) (hj : j < a.length) : (xorL a b).getD j 0 = a.getD j 0 ^^^ b.getD j 0 := by
  have hj2 : j < b.length := by omega
  simp [xorL, List.getD_eq_getElem?_getD, List.getElem?_zipWith, hj, hj2]
theorem bitsL_xor (a b : By) (k : Nat) (h : a.length = b.length) (hk : k < 8 * a.length) : ((bitsL a).getD k false != (bitsL b).getD k false) = (bitsL (xorL a b)).getD k false := by
  obtain ⟨j, t, ht, rfl⟩ : ∃ j t, t < 8 ∧ k = 8 * j + t := ⟨k / 8, k % 8, by omega, by omega⟩
  rw [bitsL_get a j t (by omega) ht, bitsL_get b j t (by omega) ht, bitsL_get _ j t (by rw [xorL_len a b h]; omega) ht, xorL_get a b j h (by omega), bitS_xor]
end Go.Lv
namespace Go.Lv
open Go Go.Proofs
set_option linter.unusedSimpArgs false
set_option maxRecDepth 100000
set_option maxHeartbeats 1000000 in
theorem Shake_funG (m : Nat) (ps : List By) (hm : m ≤ 1048576) (hp : ps.length ≤ 140737488351232) (hq : ∀ x ∈ ps, x.length ≤ 140737488351232) :
    FunG Tryz.prog Gs 219 [Enc.enc (256 : Int), Enc.enc (m : Int), Enc.enc ps] [] (.tup [.sl 1 0 m 1, .i 0]) [(1, ⟨(shakeS 256 m ps.flatten).map .u8, true⟩)] := by
  refine FunG_cc [ctMayK] [] 0 mo Tryz.func219 (by decide) cc219 rs219 Tryz.ntmps219 (by simp) rfl (by simp) rfl ?_
  have hct := ctMayK_ok CtOK_nil
  have h1 : ¬ (m : Int) < 0 := by omega
  have h2 : ¬ 1048576 < (m : Int) := by omega
  refine AW_run hct 1000 ?_
  simp (maxSteps := 10000000) (disch := omega) only [go_sem, c219, ctMayK, h1, h2, reduceIte, seval, -BitVec.isValue, -BitVec.reduceOfNat, -List.reduceReplicate]
  refine AW_callG [] [(0, 0)] 1 [] false (by simp only [go_sem, reduceIte, seval, -BitVec.isValue, -BitVec.reduceOfNat, -List.reduceReplicate]) (by simp only [go_sem, reduceIte, seval, -BitVec.isValue, -BitVec.reduceOfNat, -List.reduceReplicate]) (Shake256_funG ps hp hq) (by rfl) (.inr rfl) (by simp only [go_sem, reduceIte, seval, -BitVec.isValue, -BitVec.reduceOfNat, -List.reduceReplicate]) (by rfl) (by simp only [go_sem, reduceIte, seval, -BitVec.isValue, -BitVec.reduceOfNat, -List.reduceReplicate]; try simp) (by simp only [go_sem, reduceIte, seval, -BitVec.isValue, -BitVec.reduceOfNat, -List.reduceReplicate]) (by simp only [go_sem, reduceIte, seval, -BitVec.isValue, -BitVec.reduceOfNat, -List.reduceReplicate]) (by simp only [go_sem, spC, reduceIte, seval, -BitVec.isValue, -BitVec.reduceOfNat, -List.reduceReplicate]) ?_
  refine AW_ct [ctMayK] (AW_run hct 1000 ?_)
  simp (maxSteps := 10000000) (disch := omega) only [go_sem, spC, reduceIte, seval, -BitVec.isValue, -BitVec.reduceOfNat, -List.reduceReplicate]
  have hl := takes0_len (r := 136) (e := 31) (text := ps.flatten) (by omega)
  have hg := gO_len 136 (takes0 136 31 ps.flatten, 0) m
  refine AW_callG [(0, 0)] [(1, 1)] 2 [] false (by simp only [go_sem, reduceIte, seval, -BitVec.isValue, -BitVec.reduceOfNat, -List.reduceReplicate]) (by simp only [go_sem, reduceIte, seval, -BitVec.isValue, -BitVec.reduceOfNat, -List.reduceReplicate]) (Read_ok 0 (takes0 136 31 ps.flatten) 136 0 m (by omega) ⟨hl, by omega⟩ (by omega) (by omega) (by omega)) (by rfl) (.inr rfl) (by simp only [go_sem, reduceIte, seval, -BitVec.isValue, -BitVec.reduceOfNat, -List.reduceReplicate]) (by rfl) (by simp only [go_sem, reduceIte, seval, -BitVec.isValue, -BitVec.reduceOfNat, -List.reduceReplicate]) (by simp only [go_sem, spC, hl, (gS_ok (r := 136) (st := (takes0 136 31 ps.flatten, 0)) (by omega) ⟨hl, by simp⟩ m).1, List.length_append, List.length_map, List.length_cons, List.length_nil, reduceIte, seval, -BitVec.isValue, -BitVec.reduceOfNat, -List.reduceReplicate]; try simp) (by simp only [go_sem, reduceIte, seval, -BitVec.isValue, -BitVec.reduceOfNat, -List.reduceReplicate]) (by simp only [go_sem, spC, reduceIte, seval, -BitVec.isValue, -BitVec.reduceOfNat, -List.reduceReplicate]) ?_
  refine AW_ct [ctMayK] (AW_run hct 1000 ?_)
  simp (maxSteps := 10000000) (disch := omega) only [go_sem, spC, reduceIte, seval, -BitVec.isValue, -BitVec.reduceOfNat, -List.reduceReplicate]
  have e : shakeS 256 m ps.flatten = gO 136 (takes0 136 31 ps.flatten, 0) m := by simp only [shakeS, sha3S, rateS]; rfl
  rw [e]
set_option maxHeartbeats 1000000 in
theorem keyed1_funG (x : Xms) (hd key m : By) (hn : 0 ≤ x.n ∧ x.n ≤ 32) (h1 : hd.length ≤ 100000000) (h2 : key.length ≤ 100000000) (h3 : m.length ≤ 100000000) :
    FunG Tryz.prog Gs 238 [Enc.enc key, Enc.enc m, .rop false (xmC x), .rop false [Enc.enc hd]] [] (.sl 1 0 x.n.toNat 1) [(1, ⟨(sum32 x.shake (hd ++ key ++ m)).map .u8, true⟩)] := by
  refine FunG_cc [mark 16, mark 27, ctSum256] [] 0 mo Tryz.func238 (by decide) cc238 rs238 Tryz.ntmps238 (by simp) rfl (by simp) rfl ?_
  have hct := mark_ok 16 (mark_ok 27 (ctSum256_ok CtOK_nil))
  have hf : [hd, key, m].flatten = hd ++ key ++ m := by simp
  obtain ⟨t, ht⟩ : ∃ t, t = hd ++ key ++ m := ⟨_, rfl⟩
  have htl : t.length ≤ 300000000 := by rw [ht]; simp; omega
  rw [← ht] at hf ⊢
  have hbb := bb3 hd key m (by omega) (by omega) (by omega)
  obtain ⟨c, sh, n, hh, l⟩ := x
  simp only at hn
  have hsl := sha256S_len t
  have hkl := shakeS_len 256 32 t
  have hnn : n ≤ 32 := hn.2
  cases sh
  · rw [show sum32 false t = sha256S t from rfl]
    refine AW_run hct 1000 ?_
    simp (maxSteps := 10000000) (disch := omega) only [go_sem, c238, xmC, mark, ctSum256, hf, hbb, hsl, deL_cons, deL_nil, reduceIte, seval, -BitVec.isValue, -BitVec.reduceOfNat, -List.reduceReplicate]
    try simp
  · rw [show sum32 true t = shakeS 256 32 t from rfl]
    refine AW_run hct 1000 ?_
    simp (maxSteps := 10000000) (disch := omega) only [go_sem, c238, xmC, mark, ctSum256, hf, hbb, hkl, deL_cons, deL_nil, reduceIte, seval, -BitVec.isValue, -BitVec.reduceOfNat, -List.reduceReplicate]
    refine AW_callG [] [(1, 1)] 2 [] false (by simp only [go_sem, reduceIte, seval, -BitVec.isValue, -BitVec.reduceOfNat, -List.reduceReplicate]) (by simp only [go_sem, reduceIte, seval, -BitVec.isValue, -BitVec.reduceOfNat, -List.reduceReplicate]) (Shake_funG 32 [hd, key, m] (by omega) hbb.1 hbb.2) (by rfl) (.inr rfl) (by simp only [go_sem, reduceIte, seval, -BitVec.isValue, -BitVec.reduceOfNat, -List.reduceReplicate]) (by rfl) (by simp only [go_sem, reduceIte, seval, -BitVec.isValue, -BitVec.reduceOfNat, -List.reduceReplicate]; try simp) (by simp only [go_sem, reduceIte, seval, -BitVec.isValue, -BitVec.reduceOfNat, -List.reduceReplicate]) (by simp only [go_sem, reduceIte, seval, -BitVec.isValue, -BitVec.reduceOfNat, -List.reduceReplicate]) (by simp only [go_sem, reduceIte, seval, -BitVec.isValue, -BitVec.reduceOfNat, -List.reduceReplicate]) ?_
    refine AW_ct [mark 16, mark 27, ctSum256] (AW_run hct 1000 ?_)
    simp (maxSteps := 10000000) (disch := omega) only [go_sem, hf, hkl, reduceIte, seval, -BitVec.isValue, -BitVec.reduceOfNat, -List.reduceReplicate]
    try simp
end Go.Lv
namespace Go.Lv
open Go Go.Proofs
set_option linter.unusedSimpArgs false
set_option maxRecDepth 100000
@[go_sem] theorem m_tb (l : List Bool) (k : Nat) : (l.map AV.b).take k = (l.take k).map .b := List.map_take.symm
@[go_sem] theorem m_db (l : List Bool) (k : Nat) : (l.map AV.b).drop k = (l.drop k).map .b := List.map_drop.symm
@[go_sem] theorem m_ab (l m : List Bool) : l.map AV.b ++ m.map AV.b = (l ++ m).map .b := List.map_append.symm
@[go_sem] theorem m_cb (l : List Bool) (x : Bool) (m : List AV) : l.map AV.b ++ (.b x :: m) = (l ++ [x]).map .b ++ m := by simp
@[go_sem] theorem m_gb (l : List Bool) (k : Nat) (h : k < l.length) : (l.map AV.b).getD k .junk = .b (l.getD k false) := getD_map _ l k false h
@[go_sem] theorem m_hb (l : List Bool) (k : Nat) (h : k < l.length) : ((l.drop k).map AV.b).getD 0 .junk = .b (l.getD k false) := getD_drop _ l k false h
@[go_sem] theorem z_b (H : List (Nat × Seg)) (k : Nat) (fl : Bool) (l : List Bool) : (l.map AV.b).map (frz H (k + 1) fl) = l.map .b := by simp only [List.map_map]; exact List.map_congr_left fun _ _ => rfl
@[go_sem] theorem o_b (l : List Bool) : own.ownL (l.map .b) = false := (ow_map l).1
@[go_sem] theorem c_b (l : List Bool) : cln.clnL (l.map .b) = true := cl_map l
@[go_sem] theorem e_b (m : List (Nat × Nat)) (l : List Bool) : ren.renL m (l.map .b) = l.map .b := (rn_map m l).1
@[go_sem] theorem k_b (n : Nat) (l : List Bool) : idk.idkL n (l.map .b) = True := (ik_map n l).1
@[go_sem] theorem okL_b (l : List Bool) : okL Bool (l.map .b) = True := by refine eq_true ((okL_iff _).2 ?_); intro x hx; obtain ⟨y, _, rfl⟩ := List.mem_map.1 hx; trivial
@[go_sem] theorem deL_b (l : List Bool) : deL Bool (l.map .b) = l := by simp only [deL, List.map_map]; exact (List.map_congr_left fun _ _ => rfl).trans (List.map_id l)
def biL (b : By) (k t : Nat) : List Bool := bitsL (b.take k) ++ bitsX (b.getD k 0) t
theorem biL_zero (b : By) (k : Nat) : biL b k 0 = bitsL (b.take k) := by simp [biL, bitsX]
theorem biL_succ (b : By) (k t : Nat) : biL b k (t + 1) = biL b k t ++ [bitS (b.getD k 0) t] := by simp [biL, bitsX_succ]
theorem biL_all (b : By) (k : Nat) (h : k < b.length) : biL b k 8 = bitsL (b.take (k + 1)) := (bitsL_take b k h).symm
theorem biL_len (b : By) (k t : Nat) (h : k ≤ b.length) : (biL b k t).length = 8 * k + t := by simp [biL, bitsL_len, bitsX_len]; omega
def σbo (b : By) (k : Nat) : St := ⟨[(3, .sl 0 0 (biL b k 0).length 1), (8, Enc.enc b), (9, .i b.length), (10, .i k)], [(0, ⟨(biL b k 0).map .b, true⟩)], 1⟩
def σbi (b : By) (k t : Nat) : St := ⟨[(3, .sl 0 0 (biL b k t).length 1), (6, .i (bq (b.getD k 0) t)), (8, Enc.enc b), (9, .i b.length), (10, .i k), (16, .i t)], [(0, ⟨(biL b k t).map .b, true⟩)], 1⟩
set_option maxHeartbeats 1000000 in
theorem rBits_fun (b : By) (hb : b.length ≤ 100000000) : Fun Tryz.prog Gs 197 [Enc.enc b] (Enc.ret (bitsL b)) := by
  refine Fun_cc [] mo Tryz.func197 (by decide) cc197 rs197 Tryz.ntmps197 (by simp) ?_
  refine AW_run CtOK_nil 1000 ?_
  simp (maxSteps := 10000000) (disch := omega) only [go_sem, c197, reduceIte, seval, -BitVec.isValue, -BitVec.reduceOfNat, -List.reduceReplicate]
  refine AW_loop (σbo b) (fun k => k ≤ b.length) (fun k => b.length - k) 0 (Nat.zero_le _) (Wk_p [] ?_) fun k hk => ?_
  · simp only [go_sem, σbo, reduceIte, seval, -BitVec.isValue, -BitVec.reduceOfNat, -List.reduceReplicate]
    try simp [biL, bitsX, bitsL]
  · have hl := biL_len b k 0 hk
    refine AW_run CtOK_nil 1000 ?_
    by_cases hc : k < b.length
    · have hc' : (k : Int) < b.length := by omega
      have hq := bq_zero (b.getD k 0)
      simp (maxSteps := 10000000) (disch := omega) only [go_sem, σbo, hc', reduceIte, seval, -BitVec.isValue, -BitVec.reduceOfNat, -List.reduceReplicate]
      refine AW_loop (σbi b k) (fun t => t ≤ 8) (fun t => 8 - t) 0 (Nat.zero_le _) (Wk_p [] ?_) fun t ht => ?_
      · simp only [go_sem, σbi, hq, reduceIte, seval, -BitVec.isValue, -BitVec.reduceOfNat, -List.reduceReplicate]
        try simp
      · have hl := biL_len b k t hk
        have hq1 := bq_le (b.getD k 0) t
        have hq2 := bq_div (b.getD k 0) t
        have hq3 : decide (((bq (b.getD k 0) t : Nat) : Int) % 2 = 1) = bitS (b.getD k 0) t := rfl
        have hs := biL_succ b k t
        refine AW_run CtOK_nil 1000 ?_
        by_cases ht8 : t < 8
        · have ht' : (t : Int) < 8 := by omega
          simp (maxSteps := 10000000) (disch := omega) only [go_sem, σbi, ht', hq2, hq3, reduceIte, seval, -BitVec.isValue, -BitVec.reduceOfNat, -List.reduceReplicate]
          refine ⟨t + 1, by omega, Wk_p [(0, 2)] ?_, by omega⟩
          simp only [go_sem, σbi, hs, reduceIte, seval, -BitVec.isValue, -BitVec.reduceOfNat, -List.reduceReplicate]
          try simp
        · have : t = 8 := by omega
          subst this
          have h8 := biL_all b k hc
          have h0 := biL_zero b (k + 1)
          simp (maxSteps := 10000000) (disch := omega) only [go_sem, σbi, reduceIte, seval, -BitVec.isValue, -BitVec.reduceOfNat, -List.reduceReplicate]
          refine ⟨k + 1, by omega, Wk_p [] ?_, by omega⟩
          simp only [go_sem, σbo, h8, h0, reduceIte, seval, -BitVec.isValue, -BitVec.reduceOfNat, -List.reduceReplicate]
          try simp
    · have : k = b.length := by omega
      subst this
      have h0 := biL_zero b b.length
      rw [List.take_length] at h0
      rw [h0] at hl
      simp (maxSteps := 10000000) (disch := omega) only [go_sem, σbo, h0, reduceIte, seval, -BitVec.isValue, -BitVec.reduceOfNat, -List.reduceReplicate]
      try simp
def ctRBits : Nat × (List AV → R) := (197, A1 fun b : By => (b.length ≤ 100000000, Enc.ret (bitsL b)))
theorem ctRBits_ok {Ct : List (Nat × (List AV → R))} (h : CtOK Tryz.prog Gs Ct) : CtOK Tryz.prog Gs (ctRBits :: Ct) := CtOK_cons (Row1 fun b h => rBits_fun b h) h
def σfo (c : By) (j : Nat) : St := ⟨[(0, Enc.enc (bitsL c)), (3, .sl 0 0 (c.take j).length 1), (4, .i (8 * j : Nat))], [(0, ⟨(c.take j).map .u8, true⟩)], 1⟩
def σfi (c : By) (j t : Nat) : St := ⟨[(0, Enc.enc (bitsL c)), (3, .sl 0 0 (c.take j).length 1), (4, .i (8 * j : Nat)), (5, .i (br (c.getD j 0) t)), (6, .i (bw t)), (7, .i (8 * j + t : Nat))], [(0, ⟨(c.take j).map .u8, true⟩)], 1⟩
theorem take_at {α : Type} (c : List α) (j : Nat) (d : α) (h : j < c.length) : c.take (j + 1) = c.take j ++ [c.getD j d] := by
  rw [List.take_succ]; simp [List.getElem?_eq_getElem h, List.getD_eq_getElem?_getD]
set_option maxHeartbeats 1000000 in
theorem rFromBits_fun (c : By) (hb : c.length ≤ 100000000) : Fun Tryz.prog Gs 198 [Enc.enc (bitsL c)] (Enc.ret c) := by
  refine Fun_cc [] mo Tryz.func198 (by decide) cc198 rs198 Tryz.ntmps198 (by simp) ?_
  have hbl := bitsL_len c
  refine AW_run CtOK_nil 1000 ?_
  simp (maxSteps := 10000000) (disch := omega) only [go_sem, c198, reduceIte, seval, -BitVec.isValue, -BitVec.reduceOfNat, -List.reduceReplicate]
  refine AW_loop (σfo c) (fun j => j ≤ c.length) (fun j => c.length - j) 0 (Nat.zero_le _) (Wk_p [] ?_) fun j hj => ?_
  · simp only [go_sem, σfo, reduceIte, seval, -BitVec.isValue, -BitVec.reduceOfNat, -List.reduceReplicate]
    try simp
  · have hl : (c.take j).length = j := by simp; omega
    refine AW_run CtOK_nil 1000 ?_
    by_cases hc : j < c.length
    · have hc' : ((8 * j : Nat) : Int) < (bitsL c).length := by omega
      simp (maxSteps := 10000000) (disch := omega) only [go_sem, σfo, hc', reduceIte, seval, -BitVec.isValue, -BitVec.reduceOfNat, -List.reduceReplicate]
      refine AW_loop (σfi c j) (fun t => t ≤ 8) (fun t => 8 - t) 0 (Nat.zero_le _) (Wk_p [] ?_) fun t ht => ?_
      · simp only [go_sem, σfi, reduceIte, seval, -BitVec.isValue, -BitVec.reduceOfNat, -List.reduceReplicate]
        simp [br, bw, Nat.mod_one]
      · have hr1 := br_le (c.getD j 0) t
        have hw1 := bw_le t ht
        have hw2 := bw_succ t
        have ha := br_add (c.getD j 0) t
        refine AW_run CtOK_nil 1000 ?_
        by_cases ht8 : t < 8
        · have hg := bitsL_get c j t hc ht8
          have e1 : ((8 * j + t : Nat) : Int) < ((8 * j : Nat) : Int) + 8 := by omega
          have e2 : ((8 * j + t : Nat) : Int) < (bitsL c).length := by omega
          by_cases hbt : bitS (c.getD j 0) t = true
          · rw [if_pos hbt] at ha
            rw [hbt] at hg
            simp (maxSteps := 10000000) (disch := omega) only [go_sem, σfi, e1, e2, hg, hw2, reduceIte, seval, -BitVec.isValue, -BitVec.reduceOfNat, -List.reduceReplicate]
            refine ⟨t + 1, by omega, Wk_p [] ?_, by omega⟩
            simp only [go_sem, σfi, ha, reduceIte, seval, -BitVec.isValue, -BitVec.reduceOfNat, -List.reduceReplicate]
            simp; try omega
          · rw [if_neg hbt] at ha
            rw [Bool.eq_false_iff.2 hbt] at hg
            simp (maxSteps := 10000000) (disch := omega) only [go_sem, σfi, e1, e2, hg, hw2, reduceIte, seval, -BitVec.isValue, -BitVec.reduceOfNat, -List.reduceReplicate]
            refine ⟨t + 1, by omega, Wk_p [] ?_, by omega⟩
            simp only [go_sem, σfi, ha, reduceIte, seval, -BitVec.isValue, -BitVec.reduceOfNat, -List.reduceReplicate]
            simp; try omega
        · have : t = 8 := by omega
          subst this
          have e1 : ¬ ((8 * j + 8 : Nat) : Int) < ((8 * j : Nat) : Int) + 8 := by omega
          have hall := br_all (c.getD j 0)
          have htk := take_at c j 0 hc
          simp (maxSteps := 10000000) (disch := omega) only [go_sem, σfi, e1, hall, reduceIte, seval, -BitVec.isValue, -BitVec.reduceOfNat, -List.reduceReplicate]
          refine ⟨j + 1, by omega, Wk_p [(0, 2)] ?_, by omega⟩
          simp only [go_sem, σfo, htk, reduceIte, seval, -BitVec.isValue, -BitVec.reduceOfNat, -List.reduceReplicate]
          simp; try omega
    · have : j = c.length := by omega
      subst this
      simp (maxSteps := 10000000) (disch := omega) only [go_sem, σfo, List.take_length, reduceIte, seval, -BitVec.isValue, -BitVec.reduceOfNat, -List.reduceReplicate]
      try simp
def ctRFrom1 (c : By) : Nat × (List AV → R) := (198, fun a => (a = [Enc.enc (bitsL c)], Enc.ret c))
theorem ctRFrom1_ok {c : By} (hc : c.length ≤ 100000000) {Ct : List (Nat × (List AV → R))} (h : CtOK Tryz.prog Gs Ct) : CtOK Tryz.prog Gs (ctRFrom1 c :: Ct) := CtOK_cons (fun a e => by
  have e : a = [Enc.enc (bitsL c)] := e
  subst e; exact rFromBits_fun c hc) h
def σxo (a b : By) (k : Nat) : St := ⟨[(5, Enc.ret (bitsL a)), (6, Enc.ret (bitsL b)), (7, .sl 0 0 ((bitsL (xorL a b)).take k).length 1), (15, .i (bitsL a).length), (16, .i k)], [(0, ⟨((bitsL (xorL a b)).take k).map .b, true⟩)], 1⟩
set_option maxHeartbeats 1000000 in
theorem rXor_fun (a b : By) (h : a.length = b.length) (hb : a.length ≤ 100000000) : Fun Tryz.prog Gs 147 [Enc.enc a, Enc.enc b] (Enc.ret (xorL a b)) := by
  refine Fun_cc [ctRBits, ctRFrom1 (xorL a b)] mo Tryz.func147 (by decide) cc147 rs147 Tryz.ntmps147 (by simp) ?_
  have hxl := xorL_len a b h
  have hct : CtOK Tryz.prog Gs [ctRBits, ctRFrom1 (xorL a b)] := ctRBits_ok (ctRFrom1_ok (by omega) CtOK_nil)
  have hla := bitsL_len a
  have hlb := bitsL_len b
  have hlx := bitsL_len (xorL a b)
  refine AW_run hct 1000 ?_
  simp (maxSteps := 10000000) (disch := omega) only [go_sem, c147, ctRBits, ctRFrom1, reduceIte, seval, -BitVec.isValue, -BitVec.reduceOfNat, -List.reduceReplicate]
  refine AW_loop (σxo a b) (fun k => k ≤ (bitsL a).length) (fun k => (bitsL a).length - k) 0 (Nat.zero_le _) (Wk_p [] ?_) fun k hk => ?_
  · simp only [go_sem, σxo, reduceIte, seval, -BitVec.isValue, -BitVec.reduceOfNat, -List.reduceReplicate]
    try simp
  · have hl : ((bitsL (xorL a b)).take k).length = k := by simp; omega
    refine AW_ct [ctRBits, ctRFrom1 (xorL a b)] (AW_run hct 1000 ?_)
    by_cases hc : k < (bitsL a).length
    · have hc' : (k : Int) < (bitsL a).length := by omega
      have hx := bitsL_xor a b k h (by omega)
      have htk := take_at (bitsL (xorL a b)) k false (by omega)
      have hx2 : decide ((bitsL a).getD k false = (bitsL b).getD k false) = !((bitsL (xorL a b)).getD k false) := by
        rw [← hx]; generalize (bitsL a).getD k false = p; generalize (bitsL b).getD k false = q; cases p <;> cases q <;> rfl
      simp (maxSteps := 10000000) (disch := omega) only [go_sem, σxo, ctRBits, ctRFrom1, hc', hx2, Bool.not_not, reduceIte, seval, -BitVec.isValue, -BitVec.reduceOfNat, -List.reduceReplicate]
      refine ⟨k + 1, by omega, Wk_p [(0, 2)] ?_, by omega⟩
      simp only [go_sem, σxo, htk, reduceIte, seval, -BitVec.isValue, -BitVec.reduceOfNat, -List.reduceReplicate]
      simp; try omega
    · have : k = (bitsL a).length := by omega
      subst this
      have ht : (bitsL (xorL a b)).take (bitsL a).length = bitsL (xorL a b) := List.take_of_length_le (by omega)
      simp (maxSteps := 10000000) (disch := omega) only [go_sem, σxo, ctRBits, ctRFrom1, ht, reduceIte, seval, -BitVec.isValue, -BitVec.reduceOfNat, -List.reduceReplicate]
      try simp
def ctRXor : Nat × (List AV → R) := (147, A2 fun (a b : By) => (a.length = b.length ∧ a.length ≤ 100000000, Enc.ret (xorL a b)))
theorem ctRXor_ok {Ct : List (Nat × (List AV → R))} (h : CtOK Tryz.prog Gs Ct) : CtOK Tryz.prog Gs (ctRXor :: Ct) := CtOK_cons (Row2 fun a b h => rXor_fun a b h.1 h.2) h
end Go.Lv
namespace Go.Lv
open Go Go.Proofs
set_option linter.unusedSimpArgs false
set_option maxRecDepth 100000
def wayC (x : Xms) (seed : By) : List AV := [.u32 x.code, .b x.shake, .i x.n, .i x.h, .i x.len, Enc.enc seed, .fn (.func 238) [] [.rop false (xmC x), .rop false [Enc.enc (headS x.n 3#64)]], .fn (.func 238) [] [.rop false (xmC x), .rop false [Enc.enc (headS x.n 0#64)]]]
def wayR (x : Xms) (seed : By) : AV := .agg [.u32 x.code, .b x.shake, .i x.n, .i x.h, .i x.len, Enc.enc seed, kfn x (headS x.n 3#64), kfn x (headS x.n 0#64)]
set_option maxHeartbeats 1000000 in
theorem along_fun (x : Xms) (seed : By) (h : xmsT x.code = some x) : Fun Tryz.prog Gs 216 [Enc.enc x, Enc.enc seed] (wayR x seed) := by
  refine Fun_cc [ctKeyed] mo Tryz.func216 (by decide) cc216 rs216 Tryz.ntmps216 (by simp) ?_
  have hR : ∀ k, keyedR x k = kfn x (headS x.n k) := fun k => by rw [keyedR, if_pos h]
  refine AW_run (ctKeyed_ok CtOK_nil) 1000 ?_
  simp (maxSteps := 10000000) (disch := omega) only [go_sem, c216, ctKeyed, hR, kfn, xmC, reduceIte, seval, -BitVec.isValue, -BitVec.reduceOfNat, -List.reduceReplicate]
  simp only [wayR, kfn, xmC]
  rfl
def ctAlong1 (x : Xms) (seed : By) : Nat × (List AV → R) := (216, fun a => (a = [Enc.enc x, Enc.enc seed], wayR x seed))
theorem ctAlong1_ok {x : Xms} {seed : By} (h : xmsT x.code = some x) {Ct : List (Nat × (List AV → R))} (h2 : CtOK Tryz.prog Gs Ct) : CtOK Tryz.prog Gs (ctAlong1 x seed :: Ct) := CtOK_cons (fun a e => by
  have e : a = [Enc.enc x, Enc.enc seed] := e
  subst e; exact along_fun x seed h) h2
set_option maxHeartbeats 1000000 in
theorem mask_funG (x : Xms) (seed : By) (ws : List (BitVec 32)) (s w : Int) (hx : xmsT x.code = some x) (hs : seed.length ≤ 100000000) (hw : ws.length = 8) :
    FunG Tryz.prog Gs 241 [.agg (wayC x seed), Enc.enc (⟨ws⟩ : Ar (BitVec 32)), Enc.enc s, Enc.enc w] [] (.sl 3 0 x.n.toNat 1) [(3, ⟨(sum32 x.shake (maskT x seed ws (BitVec.ofInt 32 s) (BitVec.ofInt 32 w))).map .u8, true⟩)] := by
  refine FunG_cc [ctWBytes] [] 0 mo Tryz.func241 (by decide) cc241 rs241 Tryz.ntmps241 (by simp) rfl (by simp) rfl ?_
  have hl := withS_len ws (BitVec.ofInt 32 s) (BitVec.ofInt 32 w)
  have hws : (ws.set 6 (BitVec.ofInt 32 s)).set 7 (BitVec.ofInt 32 w) = withS ws (BitVec.ofInt 32 s) (BitVec.ofInt 32 w) := rfl
  have ht : (withS ws (BitVec.ofInt 32 s) (BitVec.ofInt 32 w)).take 8 = withS ws (BitVec.ofInt 32 s) (BitVec.ofInt 32 w) := List.take_of_length_le (by omega)
  have hal : (adrS (withS ws (BitVec.ofInt 32 s) (BitVec.ofInt 32 w))).length = 32 := by rw [adrS_len, hl, hw]
  have hat : (adrS (withS ws (BitVec.ofInt 32 s) (BitVec.ofInt 32 w))).take 32 = adrS (withS ws (BitVec.ofInt 32 s) (BitVec.ofInt 32 w)) := List.take_of_length_le (by omega)
  have hn : 0 ≤ x.n ∧ x.n ≤ 32 := by rcases xmsT_n hx with ⟨h, _⟩ | ⟨h, _⟩ <;> omega
  have hhl := headS_len x.n 3#64
  have hhl2 : (headS x.n 3#64).length ≤ 100000000 := by rw [hhl]; split <;> omega
  have hk := keyed1_funG x (headS x.n 3#64) seed (adrS (withS ws (BitVec.ofInt 32 s) (BitVec.ofInt 32 w))) hn hhl2 hs (by omega)
  rw [maskT]
  obtain ⟨hd, hhd⟩ : ∃ hd, hd = headS x.n 3#64 := ⟨_, rfl⟩
  rw [← hhd] at hk ⊢
  obtain ⟨ad, had⟩ : ∃ ad, ad = adrS (withS ws (BitVec.ofInt 32 s) (BitVec.ofInt 32 w)) := ⟨_, rfl⟩
  rw [← had] at hk hal hat ⊢
  obtain ⟨hd0, hhd0⟩ : ∃ hd0, hd0 = headS x.n 0#64 := ⟨_, rfl⟩
  rw [wayC, ← hhd, ← hhd0]
  refine AW_run (ctWBytes_ok CtOK_nil) 1000 ?_
  simp (maxSteps := 10000000) (disch := omega) only [go_sem, c241, xmC, ctWBytes, hw, ← List.map_set, hws, hl, ht, ← had, hal, hat, reduceIte, seval, -BitVec.isValue, -BitVec.reduceOfNat, -List.reduceReplicate]
  refine AW_callGc [] [(1, 3)] 4 [(2, ⟨ad.map .u8, true⟩)] true [] [.rop false (xmC x), .rop false [Enc.enc hd]] (by simp only [go_sem, xmC, reduceIte, seval, -BitVec.isValue, -BitVec.reduceOfNat, -List.reduceReplicate]) (by simp only [go_sem, reduceIte, seval, -BitVec.isValue, -BitVec.reduceOfNat, -List.reduceReplicate]) hk (by rfl) (.inl rfl) (by simp only [go_sem, reduceIte, seval, -BitVec.isValue, -BitVec.reduceOfNat, -List.reduceReplicate]) (by rfl) (by simp only [go_sem, xmC, hal, hat, reduceIte, seval, -BitVec.isValue, -BitVec.reduceOfNat, -List.reduceReplicate]; try simp) (by simp only [go_sem, reduceIte, seval, -BitVec.isValue, -BitVec.reduceOfNat, -List.reduceReplicate]) (by simp only [go_sem, reduceIte, seval, -BitVec.isValue, -BitVec.reduceOfNat, -List.reduceReplicate]) (by simp only [go_sem, reduceIte, seval, -BitVec.isValue, -BitVec.reduceOfNat, -List.reduceReplicate]) ?_
  refine AW_ct [ctWBytes] (AW_run (ctWBytes_ok CtOK_nil) 1000 ?_)
  simp (maxSteps := 10000000) (disch := omega) only [go_sem, ctWBytes, reduceIte, seval, -BitVec.isValue, -BitVec.reduceOfNat, -List.reduceReplicate]
  try simp
end Go.Lv
namespace Go.Lv
open Go Go.Proofs
set_option linter.unusedSimpArgs false
set_option maxRecDepth 100000
def σsp (x : Xms) (seed : By) (ws : List (BitVec 32)) (f k : Nat) (b : By) (j : Nat) : St :=
  ⟨[(1, roB (j != 0) (goS x seed ws f j b)), (3, .i ((f + k : Nat) : Int)), (5, .ptr 0 0), (9, .ptr 1 0), (11, .i ((f + j : Nat) : Int))], [(0, ⟨wayC x seed, true⟩), (1, ⟨ws.map .u32, true⟩)], 2⟩
def σsm (x : Xms) (seed : By) (ws : List (BitVec 32)) (f k : Nat) (bb : Bool) (y K M : By) (n j i : Nat) : St :=
  ⟨[(1, roB bb y), (3, .i ((f + k : Nat) : Int)), (5, .ptr 0 0), (9, .ptr 1 0), (11, .i ((f + j : Nat) : Int)), (12, .sl 2 0 n 1), (13, .sl 3 0 n 1), (30, .i n), (31, .i i)], [(0, ⟨wayC x seed, true⟩), (1, ⟨ws.map .u32, true⟩), (2, ⟨K.map .u8, true⟩), (3, ⟨(mixL y M i).map .u8, true⟩)], 4⟩
set_option maxHeartbeats 4000000 in
theorem steps_fun (x : Xms) (seed : By) (ws : List (BitVec 32)) (b : By) (f k : Nat) (hx : xmsT x.code = some x) (hs : seed.length ≤ 100000000) (hw : ws.length = 8) (hb : b.length = x.n.toNat) (hf : f + k ≤ 1000) :
    Fun Tryz.prog Gs 229 [.agg (wayC x seed), Enc.enc b, Enc.enc (f : Int), Enc.enc ((f + k : Nat) : Int), Enc.enc (⟨ws⟩ : Ar (BitVec 32))] (Enc.ret (goS x seed ws f k b)) := by
  refine Fun_cc [mark 51, ctOJoin] mo Tryz.func229 (by decide) cc229 rs229 Tryz.ntmps229 (by simp) ?_
  have hct := mark_ok 51 (ctOJoin_ok (CtOK_nil (P := Tryz.prog) (Gl := Gs)))
  have hn : 0 ≤ x.n ∧ x.n ≤ 32 := by rcases xmsT_n hx with ⟨h, _⟩ | ⟨h, _⟩ <;> omega
  have hwt : ws.take 8 = ws := List.take_of_length_le (by omega)
  have hhl := headS_len x.n 0#64
  have hhl2 : (headS x.n 0#64).length ≤ 100000000 := by rw [hhl]; split <;> omega
  refine AW_run hct 1000 ?_
  simp (maxSteps := 10000000) (disch := omega) only [go_sem, c229, mark, ctOJoin, wayC, xmC, hw, reduceIte, seval, -BitVec.isValue, -BitVec.reduceOfNat, -List.reduceReplicate]
  refine AW_loop (σsp x seed ws f k b) (fun j => j ≤ k) (fun j => k - j) 0 (Nat.zero_le _) (Wk_p [] ?_) fun j hj => ?_
  · simp only [go_sem, σsp, goS, bne_self_eq_false, wayC, xmC, reduceIte, seval, -BitVec.isValue, -BitVec.reduceOfNat, -List.reduceReplicate]
    try simp
  · have hgl := goS_len hx seed ws f j b hb
    have hgs : goS x seed ws f (j + 1) b = stepS x seed ws (f + j) (goS x seed ws f j b) := rfl
    obtain ⟨y, hy⟩ : ∃ y, y = goS x seed ws f j b := ⟨_, rfl⟩
    rw [← hy] at hgl hgs
    refine AW_ct [mark 51, ctOJoin] (AW_run hct 1000 ?_)
    by_cases hc : j < k
    · have hc' : ((f + j : Nat) : Int) < ((f + k : Nat) : Int) := by omega
      have m0 := mask_funG x seed ws ((f + j : Nat) : Int) 0 hx hs hw
      have m1 := mask_funG x seed ws ((f + j : Nat) : Int) 1 hx hs hw
      rw [show BitVec.ofInt 32 0 = 0#32 from rfl] at m0
      rw [show BitVec.ofInt 32 1 = 1#32 from rfl] at m1
      have k0 := maskS_32 x seed ws (BitVec.ofInt 32 ((f + j : Nat) : Int)) 0#32
      have k1 := maskS_32 x seed ws (BitVec.ofInt 32 ((f + j : Nat) : Int)) 1#32
      have l0 := sum32_len x.shake (maskT x seed ws (BitVec.ofInt 32 ((f + j : Nat) : Int)) 0#32)
      have l1 := sum32_len x.shake (maskT x seed ws (BitVec.ofInt 32 ((f + j : Nat) : Int)) 1#32)
      rw [stepS, kyS] at hgs
      obtain ⟨K, hK⟩ : ∃ K, K = sum32 x.shake (maskT x seed ws (BitVec.ofInt 32 ((f + j : Nat) : Int)) 0#32) := ⟨_, rfl⟩
      obtain ⟨M, hM⟩ : ∃ M, M = sum32 x.shake (maskT x seed ws (BitVec.ofInt 32 ((f + j : Nat) : Int)) 1#32) := ⟨_, rfl⟩
      rw [← hK] at m0 k0 l0
      rw [← hM] at m1 k1 l1
      rw [k0, k1] at hgs
      simp (maxSteps := 10000000) (disch := omega) only [go_sem, σsp, mark, ctOJoin, hc', ← hy, wayC, xmC, hw, reduceIte, seval, -BitVec.isValue, -BitVec.reduceOfNat, -List.reduceReplicate]
      refine AW_callG [] [(3, 2)] 3 [] false (by simp only [go_sem, reduceIte, seval, -BitVec.isValue, -BitVec.reduceOfNat, -List.reduceReplicate]) (by simp only [go_sem, reduceIte, seval, -BitVec.isValue, -BitVec.reduceOfNat, -List.reduceReplicate]) m0 (by rfl) (.inr rfl) (by simp only [go_sem, reduceIte, seval, -BitVec.isValue, -BitVec.reduceOfNat, -List.reduceReplicate]) (by rfl) (by simp only [go_sem, wayC, xmC, hw, hwt, reduceIte, seval, -BitVec.isValue, -BitVec.reduceOfNat, -List.reduceReplicate]; try simp) (by simp only [go_sem, reduceIte, seval, -BitVec.isValue, -BitVec.reduceOfNat, -List.reduceReplicate]) (by simp only [go_sem, reduceIte, seval, -BitVec.isValue, -BitVec.reduceOfNat, -List.reduceReplicate]) (by simp only [go_sem, reduceIte, seval, -BitVec.isValue, -BitVec.reduceOfNat, -List.reduceReplicate]) ?_
      refine AW_ct [mark 51, ctOJoin] (AW_run hct 1000 ?_)
      simp (maxSteps := 10000000) (disch := omega) only [go_sem, mark, ctOJoin, wayC, xmC, hw, reduceIte, seval, -BitVec.isValue, -BitVec.reduceOfNat, -List.reduceReplicate]
      refine AW_callG [] [(3, 3)] 4 [] false (by simp only [go_sem, reduceIte, seval, -BitVec.isValue, -BitVec.reduceOfNat, -List.reduceReplicate]) (by simp only [go_sem, reduceIte, seval, -BitVec.isValue, -BitVec.reduceOfNat, -List.reduceReplicate]) m1 (by rfl) (.inr rfl) (by simp only [go_sem, reduceIte, seval, -BitVec.isValue, -BitVec.reduceOfNat, -List.reduceReplicate]) (by rfl) (by simp only [go_sem, wayC, xmC, hw, hwt, reduceIte, seval, -BitVec.isValue, -BitVec.reduceOfNat, -List.reduceReplicate]; try simp) (by simp only [go_sem, reduceIte, seval, -BitVec.isValue, -BitVec.reduceOfNat, -List.reduceReplicate]) (by simp only [go_sem, reduceIte, seval, -BitVec.isValue, -BitVec.reduceOfNat, -List.reduceReplicate]) (by simp only [go_sem, reduceIte, seval, -BitVec.isValue, -BitVec.reduceOfNat, -List.reduceReplicate]) ?_
      refine AW_ct [mark 51, ctOJoin] (AW_run hct 1000 ?_)
      simp (maxSteps := 10000000) (disch := omega) only [go_sem, mark, ctOJoin, wayC, xmC, hw, reduceIte, seval, -BitVec.isValue, -BitVec.reduceOfNat, -List.reduceReplicate]
      refine AW_loop (σsm x seed ws f k (j != 0) y K M x.n.toNat j) (fun i => i ≤ x.n.toNat) (fun i => x.n.toNat - i) 0 (Nat.zero_le _) (Wk_p [] ?_) fun i hi => ?_
      · simp only [go_sem, σsm, wayC, xmC, mixL_zero, reduceIte, seval, -BitVec.isValue, -BitVec.reduceOfNat, -List.reduceReplicate]
        try simp
      · have hml := mixL_len y M i
        by_cases hi2 : i < x.n.toNat
        · have hi' : (i : Int) < (x.n.toNat : Int) := by omega
          have hmg := mixL_get y M i (by omega)
          have hms := mixL_set y M i (by omega)
          refine AW_ct [] (AW_run (CtOK_nil (P := Tryz.prog) (Gl := Gs)) 1000 ?_)
          simp (maxSteps := 10000000) (disch := omega) only [go_sem, σsm, hi', hmg, wayC, xmC, hw, reduceIte, seval, -BitVec.isValue, -BitVec.reduceOfNat, -List.reduceReplicate]
          refine ⟨i + 1, by omega, Wk_p [] ?_, by omega⟩
          simp only [go_sem, σsm, hms, wayC, xmC, reduceIte, seval, -BitVec.isValue, -BitVec.reduceOfNat, -List.reduceReplicate]
          try simp
        · have : i = x.n.toNat := by omega
          subst this
          have hma := mixL_all y M x.n.toNat hgl (by omega)
          have hct3 := ctKeyed1_ok (x := x) (hd := headS x.n 0#64) (key := K.take x.n.toNat) (m := xorL y (M.take x.n.toNat)) hn hhl2 (by simp; omega) (by rw [← hma]; simp; omega) (CtOK_nil (P := Tryz.prog) (Gl := Gs))
          refine AW_ct [ctKeyed1 x (headS x.n 0#64) (K.take x.n.toNat) (xorL y (M.take x.n.toNat))] (AW_run hct3 1000 ?_)
          have hmn : min x.n.toNat K.length = x.n.toNat := by omega
          have hxl : (xorL y (M.take x.n.toNat)).length = x.n.toNat := by rw [xorL_len _ _ (by simp; omega)]; exact hgl
          rw [xsumS_32] at hgs
          have hsl := sum32_len x.shake (headS x.n 0#64 ++ K.take x.n.toNat ++ xorL y (M.take x.n.toNat))
          simp (maxSteps := 10000000) (disch := omega) only [go_sem, σsm, ctKeyed1, wayC, xmC, hw, hma, hml, hmn, hxl, xsumS_32, reduceIte, seval, -BitVec.isValue, -BitVec.reduceOfNat, -List.reduceReplicate]
          refine ⟨j + 1, by omega, Wk_p [] ?_, by omega⟩
          have hne : (j + 1 != 0) = true := rfl
          simp only [go_sem, σsp, hgs, wayC, xmC, hne, reduceIte, seval, -BitVec.isValue, -BitVec.reduceOfNat, -List.reduceReplicate]
          simp; omega
    · have : j = k := by omega
      subst this
      have hfl : [y].flatten = y := by simp
      simp (maxSteps := 10000000) (disch := omega) only [go_sem, σsp, mark, ctOJoin, ← hy, wayC, xmC, hw, hfl, deL_cons, deL_nil, reduceIte, seval, -BitVec.isValue, -BitVec.reduceOfNat, -List.reduceReplicate]
      try simp
def ctSteps1 (x : Xms) (seed : By) (ws : List (BitVec 32)) (b : By) (f k : Nat) : Nat × (List AV → R) := (229, fun a => (a = [.agg (wayC x seed), Enc.enc b, Enc.enc (f : Int), Enc.enc ((f + k : Nat) : Int), Enc.enc (⟨ws⟩ : Ar (BitVec 32))], Enc.ret (goS x seed ws f k b)))
theorem ctSteps1_ok {x : Xms} {seed : By} {ws : List (BitVec 32)} {b : By} {f k : Nat} (hx : xmsT x.code = some x) (hs : seed.length ≤ 100000000) (hw : ws.length = 8) (hb : b.length = x.n.toNat) (hf : f + k ≤ 1000) {Ct : List (Nat × (List AV → R))} (h : CtOK Tryz.prog Gs Ct) : CtOK Tryz.prog Gs (ctSteps1 x seed ws b f k :: Ct) := CtOK_cons (fun a e => by
  have e : a = [.agg (wayC x seed), Enc.enc b, Enc.enc (f : Int), Enc.enc ((f + k : Nat) : Int), Enc.enc (⟨ws⟩ : Ar (BitVec 32))] := e
  subst e; exact steps_fun x seed ws b f k hx hs hw hb hf) h
end Go.Lv
namespace Go.Lv
open Go Go.Proofs
set_option linter.unusedSimpArgs false
set_option maxRecDepth 100000
theorem wmayE_zero {x : Xms} {ps : List By} (h : wmayE x ps = 0) : xmsT x.code = some x ∧ ∀ p ∈ ps, (p.length : Int) = x.n := by
  unfold wmayE at h
  split at h
  · rename_i h1
    split at h
    · rename_i h2; exact ⟨h1, h2⟩
    · cases h
  · cases h
theorem bb2 (a b : By) (ha : a.length ≤ 140737488351232) (hb : b.length ≤ 140737488351232) : bbOK [a, b] := by
  refine ⟨by simp, fun x hx => ?_⟩
  simp only [List.mem_cons, List.not_mem_nil, or_false] at hx
  rcases hx with rfl | rfl <;> assumption
end Go.Lv
namespace Go.Lv
open Go Go.Proofs
set_option linter.unusedSimpArgs false
set_option maxRecDepth 100000
end Go.Lv
namespace Go.Lv
open Go Go.Proofs
set_option linter.unusedSimpArgs false
set_option maxRecDepth 100000
end Go.Lv
