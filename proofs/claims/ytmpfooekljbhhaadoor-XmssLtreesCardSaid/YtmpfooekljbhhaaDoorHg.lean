/- A part of the proof. -/
import Derived.Test.YtmpfooekljbhhaaDoorHf
import Derived.Test.YtmpfooekljbhhaaDoorGK
set_option linter.all false
namespace Go.Lv
open Go Go.Proofs
set_option linter.unusedSimpArgs false
set_option maxRecDepth 100000

/-! ## The text of many: the code -/
def σl1 (x : Xms) (seed en : By) (leaf : BitVec 32) (k : Nat) : St :=
  ⟨[(1, Enc.enc seed), (2, Enc.enc en), (3, .u32 leaf), (4, .ptr 0 0), (9, .sl 1 0 (chunks x en k).length 1), (15, .i x.len), (16, .i k)], [(0, ⟨xmC x, true⟩), (1, ⟨(chunks x en k).map Enc.enc, true⟩)], 2⟩
def σl2 (x : Xms) (seed : By) (leaf : BitVec 32) (p : Nat × List By) : St :=
  ⟨[(1, Enc.enc seed), (3, .u32 leaf), (4, .ptr 0 0), (9, .sl 1 0 p.2.length 1), (11, .u32 (BitVec.ofNat 32 p.1))], [(0, ⟨xmC x, true⟩), (1, ⟨p.2.map Enc.enc, true⟩)], 2⟩
def σl3 (x : Xms) (seed : By) (leaf : BitVec 32) (h : Nat) (L : List By) (i : Nat) : St :=
  ⟨[(1, Enc.enc seed), (3, .u32 leaf), (4, .ptr 0 0), (9, .sl 1 0 L.length 1), (11, .u32 (BitVec.ofNat 32 h)), (12, .sl 2 0 (pairS x seed leaf (BitVec.ofNat 32 h) L i).length 1), (41, .i (L.length / 2 : Nat)), (42, .i i)], [(0, ⟨xmC x, true⟩), (1, ⟨L.map Enc.enc, true⟩), (2, ⟨(pairS x seed leaf (BitVec.ofNat 32 h) L i).map Enc.enc, true⟩)], 3⟩
def IL (x : Xms) (seed : By) (leaf : BitVec 32) (res : By) (p : Nat × List By) : Prop := 1 ≤ p.2.length ∧ p.2.length ≤ 67 ∧ allN x.n.toNat p.2 ∧ ltR x seed leaf 67 p.1 p.2 = res
theorem enc_By (y : By) : (Enc.enc y : AV) = .ros false y.length (y.map .u8) := rfl
set_option maxHeartbeats 8000000 in
theorem ltree_fun (x : Xms) (seed en : By) (leaf : BitVec 32) (hx : xmsT x.code = some x) (hs : seed.length ≤ 100000000) (he : (en.length : Int) = x.len * x.n) :
    Fun Tryd.prog Gs 67 [Enc.enc x, Enc.enc seed, Enc.enc en, Enc.enc leaf] (Enc.enc (ltreeS x seed en leaf)) := by
  refine Fun_cc [] mo Tryd.func67 (by decide) cc67 rs67 Tryd.ntmps67 (by simp) ?_
  have hx32 : 0 ≤ x.n ∧ x.n ≤ 32 ∧ 0 ≤ x.len ∧ x.len ≤ 67 ∧ 51 ≤ x.len := by rcases xmsT_n hx with ⟨h, _⟩ | ⟨h, _⟩ <;> omega
  have hroom : ∀ i : Nat, (i : Int) < x.len → (i + 1) * x.n.toNat ≤ en.length ∧ en.length ≤ 2144 := by
    intro i hi
    rcases xmsT_n hx with ⟨h1, h2⟩ | ⟨h1, h2⟩
    · rw [h1, h2] at he; rw [h2] at hi; rw [h1]; show (i + 1) * 24 ≤ _ ∧ _; omega
    · rw [h1, h2] at he; rw [h2] at hi; rw [h1]; show (i + 1) * 32 ≤ _ ∧ _; omega
  have hn0 := CtOK_nil (P := Tryd.prog) (Gl := Gs)
  refine AW_run hn0 1000 ?_
  simp (maxSteps := 10000000) (disch := omega) only [go_sem, c67, xmC, reduceIte, seval, -BitVec.isValue, -BitVec.reduceOfNat, -List.reduceReplicate]
  refine AW_null 9 1 (by simp only [go_sem, reduceIte, seval, -BitVec.isValue, -BitVec.reduceOfNat, -List.reduceReplicate]) ?_
  refine AW_loop (σl1 x seed en leaf) (fun k => (k : Int) ≤ x.len) (fun k => x.len.toNat - k) 0 (by simp; omega) (Wk_p [] ?_) fun k hk' => ?_
  · simp only [go_sem, σl1, xmC, reduceIte, seval, -BitVec.isValue, -BitVec.reduceOfNat, -List.reduceReplicate]
    try simp [chunks]
  · have hcl := chunks_len x en k
    by_cases hc : (k : Int) < x.len
    · obtain ⟨r1, r2⟩ := hroom k hc
      rw [Nat.succ_mul] at r1
      have hxn : x.n = (x.n.toNat : Int) := by omega
      have q1 : (k : Int) * x.n = ((k * x.n.toNat : Nat) : Int) := by rw [Int.natCast_mul, ← hxn]
      have q2 : ((k : Int) + 1) * x.n = ((k * x.n.toNat + x.n.toNat : Nat) : Int) := by rw [Int.add_mul, q1, Int.one_mul]; omega
      have q3 : k * x.n.toNat + x.n.toNat - k * x.n.toNat = x.n.toNat := by omega
      have hcs := chunks_succ x en k
      have hpl : ((en.drop (k * x.n.toNat)).take x.n.toNat).length = x.n.toNat := by simp; omega
      have hpl2 : min x.n.toNat (en.length - k * x.n.toNat) = x.n.toNat := by omega
      obtain ⟨y, hy⟩ : ∃ y, y = (en.drop (k * x.n.toNat)).take x.n.toNat := ⟨_, rfl⟩
      rw [← hy] at hcs hpl
      refine AW_ct [] (AW_run hn0 1000 ?_)
      simp (maxSteps := 10000000) (disch := omega) only [go_sem, σl1, xmC, hc, q1, q2, q3, ← hy, hpl, reduceIte, seval, -BitVec.isValue, -BitVec.reduceOfNat, -List.reduceReplicate]
      refine ⟨k + 1, by omega, Wk_p [(1, 3)] ?_, by omega⟩
      simp only [go_sem, σl1, xmC, hcs, reduceIte, seval, -BitVec.isValue, -BitVec.reduceOfNat, -List.reduceReplicate]
      simp [hpl, enc_By]
    · have hge : k = x.len.toNat := by omega
      subst hge
      have hres : ltR x seed leaf 67 0 (chunks x en x.len.toNat) = ltreeS x seed en leaf := rfl
      have hallc : allN x.n.toNat (chunks x en x.len.toNat) := allN_chunks x en _ (by
        have := hroom (x.len.toNat - 1) (by omega)
        rw [show x.len.toNat - 1 + 1 = x.len.toNat by omega] at this
        exact this.1)
      refine AW_ct [] (AW_run hn0 1000 ?_)
      simp (maxSteps := 10000000) (disch := omega) only [go_sem, σl1, xmC, hc, reduceIte, seval, -BitVec.isValue, -BitVec.reduceOfNat, -List.reduceReplicate]
      refine AW_loop (σl2 x seed leaf) (IL x seed leaf (ltreeS x seed en leaf)) (fun p => p.2.length) (0, chunks x en x.len.toNat) ⟨by rw [hcl]; omega, by rw [hcl]; omega, hallc, hres⟩ (Wk_p [] ?_) fun p hp => ?_
      · simp only [go_sem, σl2, xmC, reduceIte, seval, -BitVec.isValue, -BitVec.reduceOfNat, -List.reduceReplicate]
        try simp
      · obtain ⟨h, L⟩ := p
        obtain ⟨i1, i2, i3, i4⟩ := hp
        simp only at i1 i2 i3 i4
        by_cases hL : 1 < L.length
        · have hL' : (1 : Int) < (L.length : Int) := by omega
          have hdiv : (L.length : Int) / 2 = ((L.length / 2 : Nat) : Int) := rfl
          refine AW_ct [] (AW_run hn0 1000 ?_)
          simp (maxSteps := 10000000) (disch := omega) only [go_sem, σl2, xmC, hL', Int.tdiv_eq_ediv_of_nonneg, hdiv, reduceIte, seval, -BitVec.isValue, -BitVec.reduceOfNat, -List.reduceReplicate]
          refine AW_null 12 1 (by simp only [go_sem, reduceIte, seval, -BitVec.isValue, -BitVec.reduceOfNat, -List.reduceReplicate]) ?_
          refine AW_loop (σl3 x seed leaf h L) (fun i => i ≤ L.length / 2) (fun i => L.length / 2 - i) 0 (Nat.zero_le _) (Wk_p [] ?_) fun i hi => ?_
          · simp only [go_sem, σl3, xmC, reduceIte, seval, -BitVec.isValue, -BitVec.reduceOfNat, -List.reduceReplicate]
            try simp [pairS]
          · have hpl := pairS_len x seed leaf (BitVec.ofNat 32 h) L i
            by_cases hil : i < L.length / 2
            · have hil' : (i : Int) < ((L.length / 2 : Nat) : Int) := by omega
              have hps := pairS_succ x seed leaf (BitVec.ofNat 32 h) L i
              have a1 := i3 (2 * i) (by omega)
              have a2 := i3 (2 * i + 1) (by omega)
              have e1 : (2 : Int) * (i : Int) = ((2 * i : Nat) : Int) := by omega
              have e2 : ((2 * i : Nat) : Int) + 1 = ((2 * i + 1 : Nat) : Int) := by omega
              have hwe : ([.u32 0, .u32 0, .u32 0, .u32 1, .u32 leaf, .u32 (BitVec.ofNat 32 h), .u32 (BitVec.ofInt 32 (i : Int)), .u32 0] : List AV) = (adL leaf (BitVec.ofNat 32 h) (BitVec.ofInt 32 (i : Int))).map .u32 := rfl
              have hwl : (adL leaf (BitVec.ofNat 32 h) (BitVec.ofInt 32 (i : Int))).length = 8 := rfl
              have hnl := nodeS_len hx seed (adL leaf (BitVec.ofNat 32 h) (BitVec.ofInt 32 (i : Int))) (L.getD (2 * i) []) (L.getD (2 * i + 1) [])
              obtain ⟨y, hy⟩ : ∃ y, y = nodeS x seed (adL leaf (BitVec.ofNat 32 h) (BitVec.ofInt 32 (i : Int))) (L.getD (2 * i) []) (L.getD (2 * i + 1) []) := ⟨_, rfl⟩
              rw [← hy] at hps hnl
              have hct := ctNode_ok hn0
              refine AW_ct [ctNode] (AW_run hct 1000 ?_)
              simp (maxSteps := 10000000) (disch := omega) only [go_sem, σl3, ctNode, xmC, hx, hil', e1, e2, hwe, hwl, a1, a2, ← hy, hnl, reduceIte, seval, -BitVec.isValue, -BitVec.reduceOfNat, -List.reduceReplicate]
              refine ⟨i + 1, by omega, Wk_uf 4 [] (Wk_p [(2, 4)] ?_), by omega⟩
              simp only [go_sem, ufF, ufH, hps, List.map_append, reduceIte, seval, -BitVec.isValue, -BitVec.reduceOfNat, -List.reduceReplicate]
              simp [hnl, enc_By]
            · have hie : i = L.length / 2 := by omega
              subst hie
              have hul := upS_len x seed leaf (BitVec.ofNat 32 h) L
              have hua := allN_up hx seed leaf (BitVec.ofNat 32 h) L i3
              have hst := ltR_step x seed leaf h L hL i2
              rw [i4] at hst
              have hh := h32_succ h
              refine AW_ct [] (AW_run hn0 1000 ?_)
              by_cases ho : L.length % 2 = 1
              · have ho' : (L.length : Int) % 2 = 1 := by omega
                have e3 : (L.length : Int) - 1 = ((L.length - 1 : Nat) : Int) := by omega
                have hu : upS x seed leaf (BitVec.ofNat 32 h) L = pairS x seed leaf (BitVec.ofNat 32 h) L (L.length / 2) ++ [L.getD (L.length - 1) []] := by rw [upS, if_pos ho]
                have a3 := i3 (L.length - 1) (by omega)
                simp (maxSteps := 10000000) (disch := omega) only [go_sem, σl3, xmC, Int.tmod_eq_emod_of_nonneg, ho', e3, hh, reduceIte, seval, -BitVec.isValue, -BitVec.reduceOfNat, -List.reduceReplicate]
                refine ⟨(h + 1, upS x seed leaf (BitVec.ofNat 32 h) L), ⟨by simp only; omega, by simp only; omega, hua, hst.symm⟩, Wk_p [(1, 4)] ?_, by simp only; omega⟩
                simp only [go_sem, xmC, hu, List.map_append, reduceIte, seval, -BitVec.isValue, -BitVec.reduceOfNat, -List.reduceReplicate]
                simp [enc_By]
                exact hh
              · have ho' : ¬ (L.length : Int) % 2 = 1 := by omega
                have hu : upS x seed leaf (BitVec.ofNat 32 h) L = pairS x seed leaf (BitVec.ofNat 32 h) L (L.length / 2) := by rw [upS, if_neg ho, List.append_nil]
                simp (maxSteps := 10000000) (disch := omega) only [go_sem, σl3, xmC, Int.tmod_eq_emod_of_nonneg, eq_false ho', hh, reduceIte, seval, -BitVec.isValue, -BitVec.reduceOfNat, -List.reduceReplicate]
                refine ⟨(h + 1, upS x seed leaf (BitVec.ofNat 32 h) L), ⟨by simp only; omega, by simp only; omega, hua, hst.symm⟩, Wk_p [(1, 2)] ?_, by simp only; omega⟩
                simp only [go_sem, xmC, hu, reduceIte, seval, -BitVec.isValue, -BitVec.reduceOfNat, -List.reduceReplicate]
                try simp
                exact hh
        · have hL' : ¬ (1 : Int) < (L.length : Int) := by omega
          have h1 := ltR_one x seed leaf h L (by omega)
          rw [i4] at h1
          rw [h1]
          refine AW_ct [] (AW_run hn0 1000 ?_)
          simp (maxSteps := 10000000) (disch := omega) only [go_sem, σl2, xmC, eq_false hL', reduceIte, seval, -BitVec.isValue, -BitVec.reduceOfNat, -List.reduceReplicate]
          try simp
theorem ltreeS_len {x : Xms} (hx : xmsT x.code = some x) (seed en : By) (leaf : BitVec 32) (he : (en.length : Int) = x.len * x.n) : (ltreeS x seed en leaf).length = x.n.toNat := by
  refine ltR_len hx seed leaf _ _ _ ?_ ?_
  · rw [chunks_len]; rcases xmsT_n hx with ⟨_, h⟩ | ⟨_, h⟩ <;> omega
  · refine allN_chunks x en _ ?_
    rcases xmsT_n hx with ⟨h1, h2⟩ | ⟨h1, h2⟩
    · rw [h1, h2] at he; rw [h1, h2]; show 51 * 24 ≤ _; omega
    · rw [h1, h2] at he; rw [h1, h2]; show 67 * 32 ≤ _; omega
def ctLtree : Nat × (List AV → R) := (67, A4 fun (x : Xms) (seed en : By) (leaf : BitVec 32) => (xmsT x.code = some x ∧ seed.length ≤ 100000000 ∧ (en.length : Int) = x.len * x.n, Enc.enc (ltreeS x seed en leaf)))
theorem ctLtree_ok {Ct : List (Nat × (List AV → R))} (h : CtOK Tryd.prog Gs Ct) : CtOK Tryd.prog Gs (ctLtree :: Ct) := CtOK_cons (Row4 fun x seed en leaf h => ltree_fun x seed en leaf h.1 h.2.1 h.2.2) h
end Go.Lv
