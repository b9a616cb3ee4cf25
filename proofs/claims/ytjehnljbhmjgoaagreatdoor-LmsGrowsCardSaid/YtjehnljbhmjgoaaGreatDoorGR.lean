/- A part of the proof (GR). -/
import Derived.Test.YtjehnljbhmjgoaaGreatDoorGP
import Derived.Test.YtjehnljbhmjgoaaGreatDoorGK
set_option linter.all false
namespace Go.Lv
open Go Go.Proofs
set_option linter.unusedSimpArgs false
set_option maxRecDepth 100000
set_option maxHeartbeats 4000000 in
theorem lnew_funG (k : LK) (hi : k.id.length = 16) (hsd : k.sd.length ≤ 140737488351232) (h : mdE k.l k.o k.sd = 0) : FunG Tryz.prog Gs 61 [Enc.enc k.l, Enc.enc k.o, Enc.enc (⟨k.id⟩ : Ar (BitVec 8)), Enc.enc k.sd] [] (.tup [.ptr 4 0, .i 0]) [(4, ⟨ltC k .nils 0, true⟩)] := by
  have hit : k.id.take 16 = k.id := List.take_of_length_le (by omega)
  have hK : mdK k.l k.o k.id k.sd = .agg (lkR k) := by rw [mdK, if_pos h]
  have hct := ctMade_ok (CtOK_nil (P := Tryz.prog) (Gl := Gs))
  refine FunG_cc [ctMade] [] 0 mo Tryz.func61 (by decide) cc61 rs61 Tryz.ntmps61 (by simp) rfl (by decide) rfl ?_
  refine AW_run hct 21 ?_
  simp (maxSteps := 10000000) (disch := omega) only [go_sem, c61, ctMade, hK, lkR, h, hi, hit, hsd, reduceIte, seval, -BitVec.isValue, -BitVec.reduceOfNat, -List.reduceReplicate]
  refine AW_uf 99 [23] ?_
  refine AW_ct [] (AW_run (CtOK_nil (P := Tryz.prog) (Gl := Gs)) 1000 ?_)
  simp (maxSteps := 10000000) (disch := omega) only [go_sem, ufF, ufH, ltC, lkR, hi, hit, reduceIte, seval, -BitVec.isValue, -BitVec.reduceOfNat, -List.reduceReplicate]
  try simp
theorem lnew_err (k : LK) (hi : k.id.length = 16) (hsd : k.sd.length ≤ 140737488351232) (h : ¬ mdE k.l k.o k.sd = 0) : Fun Tryz.prog Gs 61 [Enc.enc k.l, Enc.enc k.o, Enc.enc (⟨k.id⟩ : Ar (BitVec 8)), Enc.enc k.sd] (.tup [.nilp, .i (mdE k.l k.o k.sd)]) := by
  have hit : k.id.take 16 = k.id := List.take_of_length_le (by omega)
  have hK : mdK k.l k.o k.id k.sd = .agg zk := by rw [mdK, if_neg h]
  obtain ⟨e, he⟩ : ∃ e, e = mdE k.l k.o k.sd := ⟨_, rfl⟩
  rw [← he] at h ⊢
  have hct := ctMade_ok (CtOK_nil (P := Tryz.prog) (Gl := Gs))
  refine Fun_cc _ mo Tryz.func61 (by decide) cc61 rs61 Tryz.ntmps61 (by simp) (AW_run hct 1000 ?_)
  simp (maxSteps := 10000000) (disch := omega) only [go_sem, c61, ctMade, hK, zk, ← he, eq_false h, hi, hit, hsd, reduceIte, seval, -BitVec.isValue, -BitVec.reduceOfNat, -List.reduceReplicate]
  try simp
end Go.Lv
namespace Go.Lv
open Go Go.Proofs
set_option linter.unusedSimpArgs false
set_option maxRecDepth 100000
theorem lsk_zer : ∀ c < 5, ∀ n < 17, n / 2 ^ c % 2 = 0 → lsk n c = lsk n (c + 1) := by decide +kernel
theorem lsk_beyond : ∀ H < 5, ∀ n < 2 ^ H + 1, lsk n (H + 1) = [] := by decide +kernel
def atW (n c : Nat) : BitVec 64 := BitVec.ofNat 64 (n / 2 ^ c * 2 ^ c)
theorem atW_0 : ∀ H < 5, ∀ n < 2 ^ H + 1, atW n (H + 1) = 0 := by decide +kernel
theorem atW_bit : ∀ c < 5, ∀ n < 17, (n / 2 ^ c % 2 = 1 → pw c ≤ BitVec.ofNat 64 n - atW n (c + 1)) ∧ (n / 2 ^ c % 2 = 0 → ¬ pw c ≤ BitVec.ofNat 64 n - atW n (c + 1)) := by decide +kernel
theorem atW_step : ∀ c < 5, ∀ n < 17, (n / 2 ^ c % 2 = 1 → atW n (c + 1) + pw c = atW n c) ∧ (n / 2 ^ c % 2 = 0 → atW n (c + 1) = atW n c) := by decide +kernel
theorem atW_num : ∀ H < 5, ∀ c < H + 1, ∀ n < 17, n / 2 ^ c % 2 = 1 → pw (H - c) + atW n (c + 1) / pw c = lW H c (n / 2 ^ c - 1) := by decide +kernel
theorem pw_ne : ∀ h < 5, ¬ pw h = 0#64 := by decide +kernel
def hsL (L : List (Nat × Nat)) : List Int := L.map fun p => (p.1 : Int)
def nsL (H : Nat) (L : List (Nat × Nat)) : List (BitVec 64) := L.map fun p => lW H p.1 p.2
def σkp (l : Lms) (n c : Nat) : St :=
  ⟨[(1, .u64 (BitVec.ofNat 64 n)), (2, .ptr 0 0), (6, .sl 1 0 (lsk n c).length 1), (7, .sl 2 0 (lsk n c).length 1), (8, .u64 (atW n c)), (9, .i ((c : Int) - 1))],
   [(0, ⟨[.u32 l.code, .b l.shake, .i l.n, .i l.h], true⟩), (1, ⟨(hsL (lsk n c)).map .i, true⟩), (2, ⟨(nsL l.h.toNat (lsk n c)).map .u64, true⟩)], 3⟩
set_option maxHeartbeats 4000000 in
theorem kept_fun (l : Lms) (n : Nat) (hs : lmsSm l) (hH : l.h.toNat ≤ 4) (hn : n ≤ 2 ^ l.h.toNat) : Fun Tryz.prog Gs 63 [Enc.enc l, .u64 (BitVec.ofNat 64 n)] (.tup [Enc.ret (hsL (lsk n 0)), Enc.ret (nsL l.h.toNat (lsk n 0))]) := by
  obtain ⟨g1, g2, g3, g4⟩ := hs
  have hn0 := CtOK_nil (P := Tryz.prog) (Gl := Gs)
  have h16 : 2 ^ l.h.toNat ≤ 2 ^ 4 := Nat.pow_le_pow_right (n := 2) (by omega) hH
  have hb := lsk_beyond l.h.toNat (by omega) n (by omega)
  have ha := atW_0 l.h.toNat (by omega) n (by omega)
  refine Fun_cc [] mo Tryz.func63 (by decide) cc63 rs63 Tryz.ntmps63 (by simp) (AW_run hn0 1000 ?_)
  simp (maxSteps := 10000000) (disch := omega) only [go_sem, c63, reduceIte, seval, -BitVec.isValue, -BitVec.reduceOfNat, -List.reduceReplicate]
  refine AW_loop (σkp l n) (fun c => c ≤ l.h.toNat + 1) (fun c => c) (l.h.toNat + 1) (Nat.le_refl _) (Wk_p [] ?_) fun c hc => ?_
  · simp only [go_sem, σkp, hb, ha, hsL, nsL, reduceIte, seval, -BitVec.isValue, -BitVec.reduceOfNat, -List.reduceReplicate]
    try simp
    try omega
  · have hl := lsk_lenc c (by omega) n (by omega)
    have l1 : (hsL (lsk n c)).length = (lsk n c).length := List.length_map _
    have l2 : (nsL l.h.toNat (lsk n c)).length = (lsk n c).length := List.length_map _
    rcases Nat.eq_zero_or_pos c with h0 | h0
    · subst h0
      have hneg : ¬ (0 : Int) ≤ ((0 : Nat) : Int) - 1 := by omega
      refine AW_ct [] (AW_run hn0 1000 ?_)
      simp (maxSteps := 10000000) (disch := omega) only [go_sem, σkp, eq_false hneg, hsL, nsL, reduceIte, seval, -BitVec.isValue, -BitVec.reduceOfNat, -List.reduceReplicate]
      simp
      exact ⟨List.take_of_length_le (by simp), List.take_of_length_le (by simp)⟩
    · obtain ⟨h, rfl⟩ : ∃ h, c = h + 1 := ⟨c - 1, by omega⟩
      have hpos : (0 : Int) ≤ ((h + 1 : Nat) : Int) - 1 := by omega
      have hh1 : ((h + 1 : Nat) : Int) - 1 = (h : Int) := by omega
      have hct := ctPower_ok hn0
      obtain ⟨b1, b2⟩ := atW_bit h (by omega) n (by omega)
      obtain ⟨s1, s2⟩ := atW_step h (by omega) n (by omega)
      have hh25 : (h : Int) ≤ 25 := by omega
      have hp0 := pw_ne h (by omega)
      have hp0' : ¬ pw h = (0 : BitVec 64) := hp0
      by_cases hbit : n / 2 ^ h % 2 = 1
      · have ht := lsk_top h (by omega) n (by omega) hbit
        have hnum := atW_num l.h.toNat (by omega) h (by omega) n (by omega) hbit
        have hsub : l.h - (h : Int) = ((l.h.toNat - h : Nat) : Int) := by omega
        have hsub25 : ((l.h.toNat - h : Nat) : Int) ≤ 25 := by omega
        refine AW_ct [ctPower] (AW_run hct 1000 ?_)
        simp (maxSteps := 10000000) (disch := omega) only [go_sem, σkp, hh1, ctPower, hh25, hsub, hsub25, eq_true (b1 hbit), s1 hbit, hnum, hl, l1, l2, eq_false hp0, eq_false hp0', reduceIte, seval, -BitVec.isValue, -BitVec.reduceOfNat, -List.reduceReplicate]
        refine ⟨h, by omega, Wk_p [(1, 4), (2, 6)] ?_, by omega⟩
        simp only [go_sem, σkp, ht, hsL, nsL, reduceIte, seval, -BitVec.isValue, -BitVec.reduceOfNat, -List.reduceReplicate]
        try simp
      · have h0b : n / 2 ^ h % 2 = 0 := by omega
        have hz := lsk_zer h (by omega) n (by omega) h0b
        refine AW_ct [ctPower] (AW_run hct 1000 ?_)
        simp (maxSteps := 10000000) (disch := omega) only [go_sem, σkp, hh1, ctPower, hh25, eq_false (b2 h0b), hl, reduceIte, seval, -BitVec.isValue, -BitVec.reduceOfNat, -List.reduceReplicate]
        refine ⟨h, by omega, Wk_p [] ?_, by omega⟩
        simp only [go_sem, σkp, hz, s2 h0b, reduceIte, seval, -BitVec.isValue, -BitVec.reduceOfNat, -List.reduceReplicate]
        try simp
end Go.Lv
namespace Go.Lv
open Go Go.Proofs
set_option linter.unusedSimpArgs false
set_option maxRecDepth 100000
def vsL (k : LK) (L : List (Nat × Nat)) : List By := L.map fun p => lnode k p.1 p.2
def hTo (k : LK) (most : Int) (L : List (Nat × Nat)) : List (Nat × Seg) := match L with
  | [] => [(0, ⟨[.i most], true⟩), (1, ⟨[.nils], true⟩), (2, ⟨[.nils], true⟩)]
  | p :: L => [(0, ⟨[.i most], true⟩), (1, ⟨[.sl 3 0 (L.length + 1) 1], true⟩), (2, ⟨[.sl 4 0 (L.length + 1) 1], true⟩), (3, ⟨(hsL (p :: L)).map .i, true⟩), (4, ⟨(vsL k (p :: L)).map Enc.ret, true⟩)]
def nTo (L : List (Nat × Nat)) : Nat := match L with
  | [] => 3
  | _ :: _ => 5
theorem told_step (L : List (Nat × Nat)) (i : Nat) (h : i < L.length) : L.take (i + 1) = L.take i ++ [L.getD i (0, 0)] := by
  rw [List.take_succ_eq_append_getElem h]; simp [List.getD_eq_getElem?_getD, h]
set_option maxHeartbeats 4000000 in
theorem told_all (k : LK) (L : List (Nat × Nat)) (n : Nat) (most : Int) (hk : LKok k) (hL : L.length ≤ 1000) (hm : (L.length : Int) ≤ most) :
    Fun Tryz.prog Gs 64 [.fn (.func 131) [] [.rop false [ltV k L n]], .i most] (.tup [Enc.ret (hsL L), Enc.ret (vsL k L)]) := by
  have hn0 := CtOK_nil (P := Tryz.prog) (Gl := Gs)
  have hid := hk.i
  refine Fun_ccM [] mo Tryz.func64 (by decide) cc64 rs64 Tryz.ntmps64 (by simp) fun E0 => AW_run hn0 1000 ?_
  simp (maxSteps := 10000000) (disch := omega) only [go_sem, c64, reduceIte, seval, -BitVec.isValue, -BitVec.reduceOfNat, -List.reduceReplicate]
  refine AW_wk (Wk_e (s' := ⟨[(12, .fn (.func 131) [] [.rop false [ltV k L n]]), (3, .ptr 0 0), (6, .ptr 1 0), (7, .ptr 2 0)], hTo k most [] ++ [], 3⟩) [] (by simp) (by simp only [go_sem, hTo, ltV, ltC, reduceIte, seval, -BitVec.isValue, -BitVec.reduceOfNat, -List.reduceReplicate]; try simp)) ?_
  have hct := mark_ok 25 (mark_ok 27 (ctJoin_ok hn0))
  refine AW_rf (Cr := [mark 25, mark 27, ctJoin]) (Cx := []) [] (lgive k L) (fun i => hTo k most (L.take i)) (fun i => nTo (L.take i)) none trivial mo (by simp only [go_sem, reduceIte, seval, -BitVec.isValue, -BitVec.reduceOfNat, -List.reduceReplicate]) (All1_iter k L n false hk (by omega) L.length false (by simp)) rfl rfl (by simp only [go_sem, okx, okx.okxL, ltV, ltC, reduceIte, seval, -BitVec.isValue, -BitVec.reduceOfNat, -List.reduceReplicate]) (by simp [okH]) rfl rfl (by simp only [go_sem, ltV, ltC, reduceIte, seval, -BitVec.isValue, -BitVec.reduceOfNat, -List.reduceReplicate]) (by decide)
    (fun i _ => rfl) (fun i hi => lgive_x k L i) rfl rfl (fun i => by unfold nTo; split <;> omega) (fun i hi => ?_) (fun e he => by cases he) rfl (by simp) ?_
  · have hst := told_step L i hi
    have hli : (L.take i).length = i := by simp; omega
    obtain ⟨p, hp⟩ : ∃ p, p = L.getD i (0, 0) := ⟨_, rfl⟩
    obtain ⟨T, hT⟩ : ∃ T, T = L.take i := ⟨_, rfl⟩
    rw [hst, lgive, ← hp, ← hT]
    rw [← hT] at hli
    have hnl := lnode_len hk p.1 p.2
    have hon := hk.o.n
    have hf : [lnode k p.1 p.2].flatten = lnode k p.1 p.2 := by simp
    have hlt : ¬ most ≤ (T.length : Int) := by omega
    cases T with
    | nil =>
      have hlt : ¬ most ≤ 0 := by simp at hlt; omega
      refine AW_run hct 1000 ?_
      simp (maxSteps := 10000000) (disch := omega) only [go_sem, hTo, nTo, reduceIte, seval, -BitVec.isValue, -BitVec.reduceOfNat, -List.reduceReplicate]
      refine AW_run hct 1000 ?_
      simp (maxSteps := 10000000) (disch := omega) only [go_sem, hTo, nTo, mark, ctJoin, eq_false hlt, hnl, hf, reduceIte, seval, -BitVec.isValue, -BitVec.reduceOfNat, -List.reduceReplicate]
      refine Wk_r [(3, 4), (4, 7)] (Nat.le_of_ble_eq_true rfl) rfl ?_
      simp only [go_sem, hTo, nTo, hsL, vsL, List.set_cons_zero, hnl, reduceIte, seval, -BitVec.isValue, -BitVec.reduceOfNat, -List.reduceReplicate]
      try simp
    | cons t T =>
      have hlt1 : ¬ most ≤ ((T.length + 1 : Nat) : Int) := by simpa using hlt
      have l1 : (hsL (t :: T)).length = T.length + 1 := by simp [hsL]
      have l2 : (vsL k (t :: T)).length = T.length + 1 := by simp [vsL]
      have hT1 : T.length ≤ 1000 := by simp at hli; omega
      refine AW_run hct 1000 ?_
      simp (maxSteps := 10000000) (disch := omega) only [go_sem, hTo, nTo, reduceIte, seval, -BitVec.isValue, -BitVec.reduceOfNat, -List.reduceReplicate]
      refine AW_run hct 1000 ?_
      simp (maxSteps := 10000000) (disch := omega) only [go_sem, hTo, nTo, mark, ctJoin, eq_false hlt1, hnl, hf, l1, l2, reduceIte, seval, -BitVec.isValue, -BitVec.reduceOfNat, -List.reduceReplicate]
      have hr : AV.ros true k.o.n.toNat ((lnode k p.1 p.2).map .u8) = Enc.ret (lnode k p.1 p.2) := by rw [← hnl]; rfl
      refine Wk_r [(3, 6), (4, 9)] (Nat.le_of_ble_eq_true rfl) rfl ?_
      simp only [go_sem, hTo, nTo, hsL, vsL, List.set_cons_zero, hnl, reduceIte, seval, -BitVec.isValue, -BitVec.reduceOfNat, -List.reduceReplicate]
      try simp
      exact hr
  · have hte : L.take L.length = L := List.take_length
    simp only [Option.isSome_none, Bool.false_eq_true, if_false, hte, jcode]
    cases L with
    | nil =>
      refine AW_run hn0 100 ?_
      simp (maxSteps := 10000000) (disch := omega) only [go_sem, hTo, nTo, reduceIte, seval, -BitVec.isValue, -BitVec.reduceOfNat, -List.reduceReplicate]
      refine AW_doneAR ?_
      simp only [go_sem, hsL, vsL, reduceIte, seval, -BitVec.isValue, -BitVec.reduceOfNat, -List.reduceReplicate]
      try simp
    | cons t T =>
      have l1 : (hsL (t :: T)).length = T.length + 1 := by simp [hsL]
      have l2 : (vsL k (t :: T)).length = T.length + 1 := by simp [vsL]
      refine AW_run hn0 100 ?_
      simp (maxSteps := 10000000) (disch := omega) only [go_sem, hTo, nTo, reduceIte, seval, -BitVec.isValue, -BitVec.reduceOfNat, -List.reduceReplicate]
      refine AW_doneAR ?_
      simp only [go_sem, hTo, nTo, l1, l2, reduceIte, seval, -BitVec.isValue, -BitVec.reduceOfNat, -List.reduceReplicate]
      simp
      refine ⟨List.take_of_length_le (by simp [l1]), ?_⟩
      have hfz : ∀ (H : List (Nat × Seg)) (l : List By), l.map (frz H 6 true ∘ Enc.ret) = l.map Enc.ret := fun H l => List.map_congr_left fun x _ => (Enc.fz H 6 x (by decide)).2.2.1
      rw [hfz, List.take_of_length_le (by simp [l2])]
set_option maxHeartbeats 4000000 in
theorem told_some (k : LK) (L : List (Nat × Nat)) (n m : Nat) (hk : LKok k) (hL : L.length ≤ 1000) (hm : m < L.length) :
    Fun Tryz.prog Gs 64 [.fn (.func 131) [] [.rop false [ltV k L n]], .i m] (.tup [Enc.ret (hsL (L.take m)), Enc.ret (vsL k (L.take m))]) := by
  have hn0 := CtOK_nil (P := Tryz.prog) (Gl := Gs)
  have hid := hk.i
  refine Fun_ccM [] mo Tryz.func64 (by decide) cc64 rs64 Tryz.ntmps64 (by simp) fun E0 => AW_run hn0 1000 ?_
  simp (maxSteps := 10000000) (disch := omega) only [go_sem, c64, reduceIte, seval, -BitVec.isValue, -BitVec.reduceOfNat, -List.reduceReplicate]
  refine AW_wk (Wk_e (s' := ⟨[(12, .fn (.func 131) [] [.rop false [ltV k L n]]), (3, .ptr 0 0), (6, .ptr 1 0), (7, .ptr 2 0)], hTo k m [] ++ [], 3⟩) [] (by simp) (by simp only [go_sem, hTo, ltV, ltC, reduceIte, seval, -BitVec.isValue, -BitVec.reduceOfNat, -List.reduceReplicate]; try simp)) ?_
  have hct := mark_ok 25 (mark_ok 27 (ctJoin_ok hn0))
  refine AW_rf (Cr := [mark 25, mark 27, ctJoin]) (Cx := []) [] (lgive k L) (fun i => hTo k m (L.take (min i m))) (fun i => nTo (L.take (min i m))) (some (.exit 0)) trivial mo (by simp only [go_sem, reduceIte, seval, -BitVec.isValue, -BitVec.reduceOfNat, -List.reduceReplicate]) (All1_iter k L n false hk (by omega) m true (by simpa using hm)) rfl rfl (by simp only [go_sem, okx, okx.okxL, ltV, ltC, reduceIte, seval, -BitVec.isValue, -BitVec.reduceOfNat, -List.reduceReplicate]) (by simp [okH]) rfl rfl (by simp only [go_sem, ltV, ltC, reduceIte, seval, -BitVec.isValue, -BitVec.reduceOfNat, -List.reduceReplicate]) (by decide)
    (fun i _ => rfl) (fun i hi => lgive_x k L i) (by simp only [Nat.zero_min, List.take_zero]) (by simp only [Nat.zero_min, List.take_zero, nTo]) (fun i => by unfold nTo; split <;> omega) (fun i hi => ?_) (fun e he => ?_) rfl (by simp) ?_
  · rw [Nat.min_eq_left (by omega : i ≤ m), Nat.min_eq_left (by omega : i + 1 ≤ m)]
    have hst := told_step L i (by omega)
    have hli : (L.take i).length = i := by simp; omega
    obtain ⟨p, hp⟩ : ∃ p, p = L.getD i (0, 0) := ⟨_, rfl⟩
    obtain ⟨T, hT⟩ : ∃ T, T = L.take i := ⟨_, rfl⟩
    rw [hst, lgive, ← hp, ← hT]
    rw [← hT] at hli
    have hnl := lnode_len hk p.1 p.2
    have hon := hk.o.n
    have hf : [lnode k p.1 p.2].flatten = lnode k p.1 p.2 := by simp
    have hlt : ¬ (m : Int) ≤ (T.length : Int) := by omega
    cases T with
    | nil =>
      have hlt : ¬ (m : Int) ≤ 0 := by simp at hlt; omega
      refine AW_run hct 1000 ?_
      simp (maxSteps := 10000000) (disch := omega) only [go_sem, hTo, nTo, reduceIte, seval, -BitVec.isValue, -BitVec.reduceOfNat, -List.reduceReplicate]
      refine AW_run hct 1000 ?_
      simp (maxSteps := 10000000) (disch := omega) only [go_sem, hTo, nTo, mark, ctJoin, eq_false hlt, hnl, hf, reduceIte, seval, -BitVec.isValue, -BitVec.reduceOfNat, -List.reduceReplicate]
      refine Wk_r [(3, 4), (4, 7)] (Nat.le_of_ble_eq_true rfl) rfl ?_
      simp only [go_sem, hTo, nTo, hsL, vsL, List.set_cons_zero, hnl, reduceIte, seval, -BitVec.isValue, -BitVec.reduceOfNat, -List.reduceReplicate]
      try simp
    | cons t T =>
      have hlt1 : ¬ (m : Int) ≤ ((T.length + 1 : Nat) : Int) := by simpa using hlt
      have l1 : (hsL (t :: T)).length = T.length + 1 := by simp [hsL]
      have l2 : (vsL k (t :: T)).length = T.length + 1 := by simp [vsL]
      have hT1 : T.length ≤ 1000 := by simp at hli; omega
      refine AW_run hct 1000 ?_
      simp (maxSteps := 10000000) (disch := omega) only [go_sem, hTo, nTo, reduceIte, seval, -BitVec.isValue, -BitVec.reduceOfNat, -List.reduceReplicate]
      refine AW_run hct 1000 ?_
      simp (maxSteps := 10000000) (disch := omega) only [go_sem, hTo, nTo, mark, ctJoin, eq_false hlt1, hnl, hf, l1, l2, reduceIte, seval, -BitVec.isValue, -BitVec.reduceOfNat, -List.reduceReplicate]
      have hr : AV.ros true k.o.n.toNat ((lnode k p.1 p.2).map .u8) = Enc.ret (lnode k p.1 p.2) := by rw [← hnl]; rfl
      refine Wk_r [(3, 6), (4, 9)] (Nat.le_of_ble_eq_true rfl) rfl ?_
      simp only [go_sem, hTo, nTo, hsL, vsL, List.set_cons_zero, hnl, reduceIte, seval, -BitVec.isValue, -BitVec.reduceOfNat, -List.reduceReplicate]
      try simp
      exact hr
  · cases he
    rw [Nat.min_self, Nat.min_eq_right (by omega : m ≤ m + 1)]
    have hli : (L.take m).length = m := by simp; omega
    obtain ⟨p, hp⟩ : ∃ p, p = L.getD m (0, 0) := ⟨_, rfl⟩
    obtain ⟨T, hT⟩ : ∃ T, T = L.take m := ⟨_, rfl⟩
    rw [lgive, ← hp, ← hT]
    rw [← hT] at hli
    have hnl := lnode_len hk p.1 p.2
    have hle : (m : Int) ≤ (T.length : Int) := by omega
    cases T with
    | nil =>
      have hle : (m : Int) ≤ 0 := by simp at hle; omega
      refine AW_run hct 1000 ?_
      simp (maxSteps := 10000000) (disch := omega) only [go_sem, hTo, nTo, reduceIte, seval, -BitVec.isValue, -BitVec.reduceOfNat, -List.reduceReplicate]
      refine AW_run hct 1000 ?_
      simp (maxSteps := 10000000) (disch := omega) only [go_sem, hTo, nTo, mark, ctJoin, eq_true hle, reduceIte, seval, -BitVec.isValue, -BitVec.reduceOfNat, -List.reduceReplicate]
      refine Wk_r [] (Nat.le_of_ble_eq_true rfl) rfl ?_
      simp only [go_sem, hTo, nTo, reduceIte, seval, -BitVec.isValue, -BitVec.reduceOfNat, -List.reduceReplicate]
      try simp
    | cons t T =>
      have hle1 : (m : Int) ≤ ((T.length + 1 : Nat) : Int) := by simpa using hle
      refine AW_run hct 1000 ?_
      simp (maxSteps := 10000000) (disch := omega) only [go_sem, hTo, nTo, reduceIte, seval, -BitVec.isValue, -BitVec.reduceOfNat, -List.reduceReplicate]
      refine AW_run hct 1000 ?_
      simp (maxSteps := 10000000) (disch := omega) only [go_sem, hTo, nTo, mark, ctJoin, eq_true hle1, reduceIte, seval, -BitVec.isValue, -BitVec.reduceOfNat, -List.reduceReplicate]
      refine Wk_r [] (Nat.le_of_ble_eq_true rfl) rfl ?_
      simp only [go_sem, hTo, nTo, reduceIte, seval, -BitVec.isValue, -BitVec.reduceOfNat, -List.reduceReplicate]
      try simp
  · simp only [Option.isSome_some, if_true, Nat.min_eq_right (show m ≤ m + 1 by omega), jcode]
    obtain ⟨T0, hT0⟩ : ∃ T0, T0 = L.take m := ⟨_, rfl⟩
    rw [← hT0]
    cases T0 with
    | nil =>
      refine AW_run hn0 100 ?_
      simp (maxSteps := 10000000) (disch := omega) only [go_sem, hTo, nTo, reduceIte, seval, -BitVec.isValue, -BitVec.reduceOfNat, -List.reduceReplicate]
      refine AW_doneAR ?_
      simp only [go_sem, hsL, vsL, reduceIte, seval, -BitVec.isValue, -BitVec.reduceOfNat, -List.reduceReplicate]
      try simp
    | cons t T =>
      have l1 : (hsL (t :: T)).length = T.length + 1 := by simp [hsL]
      have l2 : (vsL k (t :: T)).length = T.length + 1 := by simp [vsL]
      refine AW_run hn0 100 ?_
      simp (maxSteps := 10000000) (disch := omega) only [go_sem, hTo, nTo, reduceIte, seval, -BitVec.isValue, -BitVec.reduceOfNat, -List.reduceReplicate]
      refine AW_doneAR ?_
      simp only [go_sem, hTo, nTo, l1, l2, reduceIte, seval, -BitVec.isValue, -BitVec.reduceOfNat, -List.reduceReplicate]
      simp
      refine ⟨List.take_of_length_le (by simp [l1]), ?_⟩
      have hfz : ∀ (H : List (Nat × Seg)) (l : List By), l.map (frz H 6 true ∘ Enc.ret) = l.map Enc.ret := fun H l => List.map_congr_left fun x _ => (Enc.fz H 6 x (by decide)).2.2.1
      rw [hfz, List.take_of_length_le (by simp [l2])]
end Go.Lv
namespace Go.Lv
open Go Go.Proofs
set_option linter.unusedSimpArgs false
set_option maxRecDepth 100000
theorem lsk_in : ∀ H < 5, ∀ n < 2 ^ H + 1, ∀ i < (lsk n 0).length, ((lsk n 0).getD i (0, 0)).1 ≤ H ∧ ((lsk n 0).getD i (0, 0)).2 < 2 ^ (H - ((lsk n 0).getD i (0, 0)).1) := by decide +kernel
def allV (k : LK) (L : List (Nat × Nat)) (n : Nat) : AV := .fn (.func 131) [] [.rop false [ltV k L n]]
def ctTold (k : LK) (L : List (Nat × Nat)) (n : Nat) : Nat × (List AV → R) := (64, fun a => match a with
  | [f, .i m] => (f = allV k L n ∧ 0 ≤ m, .tup [Enc.ret (hsL (L.take m.toNat)), Enc.ret (vsL k (L.take m.toNat))])
  | _ => (False, .junk))
theorem ctTold_ok {k : LK} {L : List (Nat × Nat)} {n : Nat} (hk : LKok k) (hL : L.length ≤ 1000) {Ct : List (Nat × (List AV → R))} (h : CtOK Tryz.prog Gs Ct) : CtOK Tryz.prog Gs (ctTold k L n :: Ct) := CtOK_cons (fun a h => by
  split at h
  · rename_i f m
    obtain ⟨h1, h2⟩ : _ ∧ _ := h
    obtain ⟨m, rfl⟩ := Int.eq_ofNat_of_zero_le h2
    show Fun Tryz.prog Gs _ [f, .i (m : Int)] (.tup [Enc.ret (hsL (L.take m)), Enc.ret (vsL k (L.take m))])
    rw [h1]
    by_cases hm : m < L.length
    · exact told_some k L n m hk hL hm
    · rw [List.take_of_length_le (by omega)]
      exact told_all k L n m hk hL (by omega)
  · exact h.elim) h
theorem lall_funG (k : LK) (n : Nat) (hi : k.id.length = 16) : FunG Tryz.prog Gs 65 [.ptr 0 0] [(0, ⟨ltC k (.sl 1 0 (lsk n 0).length 3) n, false⟩), (1, ⟨lsC k (lsk n 0), false⟩)] (.fn (.func 131) [] [.ptr 2 0]) [(0, ⟨ltC k (.sl 1 0 (lsk n 0).length 3) n, false⟩), (1, ⟨lsC k (lsk n 0), false⟩), (2, ⟨[.ptr 0 0], true⟩)] := by
  refine FunG_cc [] [0, 1] 2 mo Tryz.func65 (by decide) cc65 rs65 Tryz.ntmps65 (by simp) rfl (by decide) rfl (AW_run CtOK_nil 1000 ?_)
  simp (maxSteps := 10000000) (disch := omega) only [go_sem, c65, ltC, reduceIte, seval, -BitVec.isValue, -BitVec.reduceOfNat, -List.reduceReplicate]
  try simp
def σgr (k : LK) (most : BitVec 8) (n : Nat) : St :=
  ⟨[(1, .u8 most), (2, .ptr 0 0), (5, .ptr 1 0), (8, .u64 (pw k.l.h.toNat)), (9, .u64 (BitVec.ofNat 64 n))], [(0, ⟨lkC k, true⟩), (1, ⟨ltC k (.sl 2 0 (lsk n 0).length 3) n, true⟩), (2, ⟨lsC k (lsk n 0), false⟩)], 3⟩
def σgi (k : LK) (most : BitVec 8) (n i : Nat) : St :=
  ⟨[(1, .u8 most), (2, .ptr 0 0), (5, .ptr 1 0), (8, .u64 (pw k.l.h.toNat)), (9, .u64 (BitVec.ofNat 64 n)), (10, Enc.enc (hsL (lsk n 0))), (11, Enc.enc (nsL k.l.h.toNat (lsk n 0))), (12, Enc.enc (hsL (lsk n 0))), (13, Enc.enc (vsL k (lsk n 0))), (118, .i (lsk n 0).length), (119, .i i)],
   [(0, ⟨lkC k, true⟩), (1, ⟨ltC k (.sl 2 0 (lsk n 0).length 3) n, true⟩), (2, ⟨lsC k (lsk n 0), false⟩)], 3⟩
set_option maxHeartbeats 8000000 in
theorem LmGrows_fun (k : LK) (most : BitVec 8) (hi : k.id.length = 16) (hsd : k.sd.length ≤ 140737488351232) : Fun Tryz.prog Gs 11 [.agg (lkC k), Enc.enc most] (.b true) := by
  have hit : k.id.take 16 = k.id := List.take_of_length_le (by omega)
  have hn0 := CtOK_nil (P := Tryz.prog) (Gl := Gs)
  cases hF : fewB k with
  | false =>
    have hct := ctLlive_ok (ctFewK_ok hi hn0)
    refine Fun_cc _ mo Tryz.func11 (by decide) cc11 rs11 Tryz.ntmps11 (by simp) (AW_run hct 1000 ?_)
    simp (maxSteps := 10000000) (disch := omega) only [go_sem, c11, ctLlive, ct1, lkC, hi, hit, hF, reduceIte, seval, -BitVec.isValue, -BitVec.reduceOfNat, -List.reduceReplicate]
  | true =>
    by_cases h0 : mdE k.l k.o k.sd = 0
    · have hk : LKok k := mdE_ok h0 hi
      have hH := few_H' hF h0
      have hid := hk.i
      have hf := hk.kf
      have hs := hk.sm
      have hsm : lmsSm k.l := hk.sm
      have hnw := lnew_funG k hi hsd h0
      have hgr := fun n hn => ladd_funG k n hk hH hn
      have hfull := laddV_all k hk hH
      have htop := ltopV_all k hk hH
      have htst := fun n L h1 h2 => ltopV_st k L n hk h1 h2
      have hin := lsk_in k.l.h.toNat (by omega)
      have hpw : BitVec.ofNat 64 (2 ^ k.l.h.toNat) = pw k.l.h.toNat := rfl
      have hkp := fun n hn => kept_fun k.l n hsm hH hn
      obtain ⟨P, hP⟩ : ∃ P, P = 2 ^ k.l.h.toNat := ⟨_, rfl⟩
      have hP16 : P ≤ 16 := by rw [hP]; exact Nat.pow_le_pow_right (n := 2) (by omega) hH
      rw [← hP] at hgr hfull htop hpw htst hin hkp
      have hct := ctLlive_ok (ctFewK_ok hi hn0)
      refine Fun_cc [ctLlive, ct1 41 [.agg (lkC k)] (.b (fewB k))] mo Tryz.func11 (by decide) cc11 rs11 Tryz.ntmps11 (by simp) (AW_run hct 1000 ?_)
      simp (maxSteps := 10000000) (disch := omega) only [go_sem, c11, ctLlive, ct1, lkC, hi, hit, hF, reduceIte, seval, -BitVec.isValue, -BitVec.reduceOfNat, -List.reduceReplicate]
      refine AW_callGd [] [(4, 1)] 2 [] false [] [] (by simp only [go_sem, reduceIte, seval, -BitVec.isValue, -BitVec.reduceOfNat, -List.reduceReplicate]) (by simp only [go_sem, reduceIte, seval, -BitVec.isValue, -BitVec.reduceOfNat, -List.reduceReplicate]) hnw (by rfl) (.inr rfl) (by simp only [go_sem, reduceIte, seval, -BitVec.isValue, -BitVec.reduceOfNat, -List.reduceReplicate]) (by rfl) (by simp only [go_sem, hi, hit, reduceIte, seval, -BitVec.isValue, -BitVec.reduceOfNat, -List.reduceReplicate]; try simp) (by simp only [go_sem, reduceIte, seval, -BitVec.isValue, -BitVec.reduceOfNat, -List.reduceReplicate]) (by simp only [go_sem, reduceIte, seval, -BitVec.isValue, -BitVec.reduceOfNat, -List.reduceReplicate]) (by simp only [go_sem, ltC, reduceIte, seval, -BitVec.isValue, -BitVec.reduceOfNat, -List.reduceReplicate]) ?_
      have hct2 := ctRLMay_ok (ctLeaves_ok hn0)
      refine AW_ct [ctRLMay, ctLeaves] (AW_run hct2 1000 ?_)
      simp (maxSteps := 10000000) (disch := omega) only [go_sem, ltC, ctRLMay, ctLeaves, h0, hsm, reduceIte, seval, -BitVec.isValue, -BitVec.reduceOfNat, -List.reduceReplicate]
      refine AW_nulC 1 27 3 (seg := ⟨ltC k .nils 0, true⟩) (by simp only [go_sem, ltC, reduceIte, seval, -BitVec.isValue, -BitVec.reduceOfNat, -List.reduceReplicate]; try simp) (by simp [ltC, List.getElem?_append, hid]) (by simp only; omega) ?_
      refine AW_loop (σgr k most) (fun n => n ≤ P) (fun n => P - n) 0 (Nat.zero_le _) (Wk_p [] ?_) fun n hn => ?_
      · simp (maxSteps := 10000000) (disch := omega) only [go_sem, σgr, mapH, ltC, lkC, hid, lsk_zero, List.set_cons_zero, List.set_cons_succ, reduceIte, seval, -BitVec.isValue, -BitVec.reduceOfNat, -List.reduceReplicate]
        simp [lsC, id_set, hid]
      · have hsl := lsC_len k (lsk n 0)
        have hstl : (lsC k (lsk n 0)).take ((lsk n 0).length * 3) = lsC k (lsk n 0) := List.take_of_length_le (by rw [lsC_len]; omega)
        have hl5 := lsk_lenc 0 (by omega) n (by omega)
        have l1 : (hsL (lsk n 0)).length = (lsk n 0).length := List.length_map _
        have l2 : (nsL k.l.h.toNat (lsk n 0)).length = (lsk n 0).length := List.length_map _
        have l3 : (vsL k (lsk n 0)).length = (lsk n 0).length := List.length_map _
        have htb : (lsk n 0).take 1048576 = lsk n 0 := List.take_of_length_le (by omega)
        have hct3 := ct1_ok (hkp n hn) (ctTold_ok (k := k) (L := lsk n 0) (n := n) hk (by omega) (ct1_ok (lcountV_fun k (lsk n 0) n hk) (ct1_ok (lheldV_fun k (lsk n 0) n hk) hn0)))
        refine AW_ct _ (AW_run hct3 1000 ?_)
        simp (maxSteps := 10000000) (disch := omega) only [go_sem, σgr, ct1, ctTold, allV, ltV, ltC, lkC, hid, hit, hstl, l1, l2, l3, htb, reduceIte, seval, -BitVec.isValue, -BitVec.reduceOfNat, -List.reduceReplicate]
        refine AW_callGd [(0, 1), (1, 2)] [(2, 3)] 4 [] false [] [] (by simp only [go_sem, reduceIte, seval, -BitVec.isValue, -BitVec.reduceOfNat, -List.reduceReplicate]) (by simp only [go_sem, reduceIte, seval, -BitVec.isValue, -BitVec.reduceOfNat, -List.reduceReplicate]) (lall_funG k n hi) (by rfl) (.inr rfl) (by simp only [go_sem, reduceIte, seval, -BitVec.isValue, -BitVec.reduceOfNat, -List.reduceReplicate]) (by rfl) (by simp only [go_sem, reduceIte, seval, -BitVec.isValue, -BitVec.reduceOfNat, -List.reduceReplicate]; try simp) (by simp only [go_sem, ltC, reduceIte, seval, -BitVec.isValue, -BitVec.reduceOfNat, -List.reduceReplicate]; try simp) (by simp only [go_sem, reduceIte, seval, -BitVec.isValue, -BitVec.reduceOfNat, -List.reduceReplicate]) (by simp only [go_sem, ltC, reduceIte, seval, -BitVec.isValue, -BitVec.reduceOfNat, -List.reduceReplicate]) ?_
        refine AW_ct _ (AW_run hct3 1000 ?_)
        simp (maxSteps := 10000000) (disch := omega) only [go_sem, ct1, ctTold, allV, ltV, ltC, lkC, hid, hit, hstl, l1, l2, l3, htb, reduceIte, seval, -BitVec.isValue, -BitVec.reduceOfNat, -List.reduceReplicate]
        refine AW_callGd [(0, 1), (1, 2)] [(2, 4)] 5 [] false [] [] (by simp only [go_sem, reduceIte, seval, -BitVec.isValue, -BitVec.reduceOfNat, -List.reduceReplicate]) (by simp only [go_sem, reduceIte, seval, -BitVec.isValue, -BitVec.reduceOfNat, -List.reduceReplicate]) (lall_funG k n hi) (by rfl) (.inr rfl) (by simp only [go_sem, reduceIte, seval, -BitVec.isValue, -BitVec.reduceOfNat, -List.reduceReplicate]) (by rfl) (by simp only [go_sem, reduceIte, seval, -BitVec.isValue, -BitVec.reduceOfNat, -List.reduceReplicate]; try simp) (by simp only [go_sem, ltC, reduceIte, seval, -BitVec.isValue, -BitVec.reduceOfNat, -List.reduceReplicate]; try simp) (by simp only [go_sem, reduceIte, seval, -BitVec.isValue, -BitVec.reduceOfNat, -List.reduceReplicate]) (by simp only [go_sem, ltC, reduceIte, seval, -BitVec.isValue, -BitVec.reduceOfNat, -List.reduceReplicate]) ?_
        refine AW_ct _ (AW_run hct3 1000 ?_)
        have hmn : ((hsL ((lsk n 0).take (most % 3).toNat)).length : Int) = (if ((most % 3).toNat : Int) < ((lsk n 0).length : Int) then ((most % 3).toNat : Int) else ((lsk n 0).length : Int)) := by
          rw [hsL, List.length_map, List.length_take]
          split <;> omega
        have hmn' : ((hsL ((lsk n 0).take (most % (3 : BitVec 8)).toNat)).length : Int) = (if ((most % (3 : BitVec 8)).toNat : Int) < ((lsk n 0).length : Int) then ((most % (3 : BitVec 8)).toNat : Int) else ((lsk n 0).length : Int)) := hmn
        simp (maxSteps := 10000000) (disch := omega) only [go_sem, ct1, ctTold, allV, ltV, ltC, lkC, hid, hit, hstl, l1, l2, l3, htb, eq_true hmn, eq_true hmn', decide_true, reduceIte, seval, -BitVec.isValue, -BitVec.reduceOfNat, -List.reduceReplicate]
        refine AW_loop (σgi k most n) (fun i => i ≤ (lsk n 0).length) (fun i => (lsk n 0).length - i) 0 (Nat.zero_le _) (Wk_uf 99 [10, 11, 12, 13] (Wk_p [] ?_)) fun i hil => ?_
        · simp only [go_sem, σgi, ufF, ufH, ltC, lkC, l1, l2, l3, reduceIte, seval, -BitVec.isValue, -BitVec.reduceOfNat, -List.reduceReplicate]
          try simp
        · by_cases hic : i < (lsk n 0).length
          · have hicI : (i : Int) < ((lsk n 0).length : Int) := by omega
            obtain ⟨i1, i2⟩ := hin n (by omega) i hic
            obtain ⟨p, hp⟩ : ∃ p, p = (lsk n 0).getD i (0, 0) := ⟨_, rfl⟩
            rw [← hp] at i1 i2
            have e1 : (hsL (lsk n 0)).getD i 0 = (p.1 : Int) := by rw [hp, hsL]; simp [List.getD_eq_getElem?_getD, hic]
            have e2 : (nsL k.l.h.toNat (lsk n 0)).getD i 0 = lW k.l.h.toNat p.1 p.2 := by rw [hp, nsL]; simp [List.getD_eq_getElem?_getD, hic]
            have e3 : (vsL k (lsk n 0)).getD i [] = lnode k p.1 p.2 := by rw [hp, vsL]; simp [List.getD_eq_getElem?_getD, hic]
            have hp31 : p.2 < 2 ^ 31 := by
              have : 2 ^ (k.l.h.toNat - p.1) ≤ 2 ^ 4 := Nat.pow_le_pow_right (n := 2) (by omega) (by omega)
              omega
            have hw := lW_nat (H := k.l.h.toNat) (h := p.1) (j := p.2) (by omega) hp31
            have hrk : rOK k p.1 (lW k.l.h.toNat p.1 p.2) := by rw [rOK, hw]; omega
            have hv : lnode k p.1 ((lW k.l.h.toNat p.1 p.2).toNat - 2 ^ (k.l.h.toNat - p.1)) = lnode k p.1 p.2 := by rw [hw, Nat.add_sub_cancel_left]
            have hct5 := ctRAtL_ok hk i1 (ctEqual_ok hn0)
            refine AW_ct [ctRAtL k p.1, ctEqual] (AW_run hct5 1000 ?_)
            simp (maxSteps := 10000000) (disch := omega) only [go_sem, σgi, ctRAtL, ctEqual, lkC, hid, hit, hicI, hic, l1, l2, l3, e1, e2, e3, eq_true hrk, hv, reduceIte, seval, -BitVec.isValue, -BitVec.reduceOfNat, -List.reduceReplicate]
            refine ⟨i + 1, by omega, Wk_p [] ?_, by omega⟩
            simp only [go_sem, σgi, lkC, ltC, reduceIte, seval, -BitVec.isValue, -BitVec.reduceOfNat, -List.reduceReplicate]
            try simp
          · have hie : i = (lsk n 0).length := by omega
            have hicI : ¬ (i : Int) < ((lsk n 0).length : Int) := by omega
            have hicJ : ¬ (((lsk n 0).length : Nat) : Int) < ((lsk n 0).length : Int) := by omega
            subst hie
            by_cases hc : n < P
            · have hne : ¬ BitVec.ofNat 64 n = pw k.l.h.toNat := fun e => by have := (pw_of n (by omega) (by omega)).1 e; omega
              have hinc : BitVec.ofNat 64 n + 1#64 = BitVec.ofNat 64 (n + 1) := by
                apply BitVec.eq_of_toNat_eq; simp
              have hinc' : BitVec.ofNat 64 n + (1 : BitVec 64) = BitVec.ofNat 64 (n + 1) := hinc
              have hct5 := ct1_ok (htst n (lsk n 0) (by omega) (by omega)) hn0
              refine AW_ct _ (AW_run hct5 1000 ?_)
              simp (maxSteps := 10000000) (disch := omega) only [go_sem, σgi, ct1, ltV, ltC, lkC, hid, hit, hstl, hicJ, eq_false hne, reduceIte, seval, -BitVec.isValue, -BitVec.reduceOfNat, -List.reduceReplicate]
              refine AW_callGd [(0, 1), (1, 2)] [(4, 3)] 4 [] false [] [] (by simp only [go_sem, reduceIte, seval, -BitVec.isValue, -BitVec.reduceOfNat, -List.reduceReplicate]) (by simp only [go_sem, reduceIte, seval, -BitVec.isValue, -BitVec.reduceOfNat, -List.reduceReplicate]) (hgr n hc) (by rfl) (.inr rfl) (by simp only [go_sem, reduceIte, seval, -BitVec.isValue, -BitVec.reduceOfNat, -List.reduceReplicate]) (by rfl) (by simp only [go_sem, reduceIte, seval, -BitVec.isValue, -BitVec.reduceOfNat, -List.reduceReplicate]; try simp) (by simp only [go_sem, ltC, reduceIte, seval, -BitVec.isValue, -BitVec.reduceOfNat, -List.reduceReplicate]; try simp) (by simp only [go_sem, reduceIte, seval, -BitVec.isValue, -BitVec.reduceOfNat, -List.reduceReplicate]) (by simp only [go_sem, ltC, reduceIte, seval, -BitVec.isValue, -BitVec.reduceOfNat, -List.reduceReplicate]) ?_
              refine AW_ct [] (AW_run hn0 1000 ?_)
              simp (maxSteps := 10000000) (disch := omega) only [go_sem, ltC, hinc, hinc', reduceIte, seval, -BitVec.isValue, -BitVec.reduceOfNat, -List.reduceReplicate]
              refine ⟨n + 1, by omega, Wk_p [(2, 3)] ?_, by omega⟩
              simp only [go_sem, σgr, ltC, lkC, reduceIte, seval, -BitVec.isValue, -BitVec.reduceOfNat, -List.reduceReplicate]
              try simp
            · have hnP : n = P := by omega
              subst hnP
              have hrl := lroot_len hk
              have hk' : LKok ⟨k.l, k.o, k.id, k.sd⟩ := hk
              have hct5 := ct1_ok hfull (ct1_ok htop (ctRRootL_ok (ctEqual_ok hn0)))
              refine AW_ct _ (AW_run hct5 1000 ?_)
              simp (maxSteps := 10000000) (disch := omega) only [go_sem, σgi, ct1, ctRRootL, ctEqual, ltV, ltC, lkC, hid, hit, hstl, hicJ, hpw, hk', hrl, reduceIte, seval, -BitVec.isValue, -BitVec.reduceOfNat, -List.reduceReplicate]
              try simp
    · have hnw := lnew_err k hi hsd h0
      have hct := ctLlive_ok (ctFewK_ok hi (ct1_ok hnw (ctRLMay_ok hn0)))
      obtain ⟨e, he⟩ : ∃ e, e = mdE k.l k.o k.sd := ⟨_, rfl⟩
      refine Fun_cc _ mo Tryz.func11 (by decide) cc11 rs11 Tryz.ntmps11 (by simp) (AW_run hct 1000 ?_)
      rw [← he] at h0
      simp (maxSteps := 10000000) (disch := omega) only [go_sem, c11, ctLlive, ct1, ctRLMay, lkC, hi, hit, hF, ← he, eq_false h0, reduceIte, seval, -BitVec.isValue, -BitVec.reduceOfNat, -List.reduceReplicate]
      try simp
end Go.Lv
