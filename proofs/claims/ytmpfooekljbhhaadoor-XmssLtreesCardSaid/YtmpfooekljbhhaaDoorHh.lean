/- A part of the proof. -/
import Derived.Test.YtmpfooekljbhhaaDoorHg
import Derived.Test.YtmpfooekljbhhaaDoorGK
set_option linter.all false
namespace Go.Lv
open Go Go.Proofs
set_option linter.unusedSimpArgs false
set_option maxRecDepth 100000

/-! ## The text of many: the reference -/
def adK (k leaf h i : BitVec 32) : List (BitVec 32) := [0, 0, 0, k, leaf, h, i, 0]
theorem rxAt_fun (k : Int) (leaf h i : BitVec 32) : Fun Tryd.prog Gs 68 [Enc.enc k, Enc.enc leaf, Enc.enc h, Enc.enc i] (Enc.ret (⟨adK (BitVec.ofInt 32 k) leaf h i⟩ : Ar (BitVec 32))) := by
  refine Fun_cc [] mo Tryd.func68 (by decide) cc68 rs68 Tryd.ntmps68 (by simp) ?_
  refine AW_run CtOK_nil 1000 ?_
  simp (maxSteps := 10000000) (disch := omega) only [go_sem, c68, reduceIte, seval, -BitVec.isValue, -BitVec.reduceOfNat, -List.reduceReplicate]
  try simp [adK]
def ctRXAt : Nat × (List AV → R) := (68, A4 fun (k : Int) (leaf h i : BitVec 32) => (True, Enc.ret (⟨adK (BitVec.ofInt 32 k) leaf h i⟩ : Ar (BitVec 32))))
theorem ctRXAt_ok {Ct : List (Nat × (List AV → R))} (h : CtOK Tryd.prog Gs Ct) : CtOK Tryd.prog Gs (ctRXAt :: Ct) := CtOK_cons (Row4 fun k leaf h i _ => rxAt_fun k leaf h i) h
def σrlA (x : Xms) (seed en : By) (leaf : BitVec 32) (k : Nat) : St :=
  ⟨[(1, Enc.enc seed), (2, Enc.enc en), (3, .u32 leaf), (4, .ptr 0 0), (9, .sl 1 0 (chunks x en k).length 1), (16, .i x.len), (17, .i k)], [(0, ⟨xmC x, true⟩), (1, ⟨(chunks x en k).map Enc.enc, true⟩)], 2⟩
def σrlB (x : Xms) (seed : By) (leaf : BitVec 32) (p : Nat × List By) : St :=
  ⟨[(1, Enc.enc seed), (3, .u32 leaf), (4, .ptr 0 0), (9, .sl 1 0 p.2.length 1), (11, .u32 (BitVec.ofNat 32 p.1))], [(0, ⟨xmC x, true⟩), (1, ⟨p.2.map Enc.enc, true⟩)], 2⟩
def σrlC (x : Xms) (seed : By) (leaf : BitVec 32) (h : Nat) (L : List By) (i : Nat) : St :=
  ⟨[(1, Enc.enc seed), (3, .u32 leaf), (4, .ptr 0 0), (9, .sl 1 0 L.length 1), (11, .u32 (BitVec.ofNat 32 h)), (12, .sl 2 0 (pairS x seed leaf (BitVec.ofNat 32 h) L i).length 1), (13, .i (2 * i : Nat))], [(0, ⟨xmC x, true⟩), (1, ⟨L.map Enc.enc, true⟩), (2, ⟨(pairS x seed leaf (BitVec.ofNat 32 h) L i).map Enc.enc, true⟩)], 3⟩
set_option maxHeartbeats 8000000 in
theorem rLtree_fun (x : Xms) (seed en : By) (leaf : BitVec 32) (hx : xmsT x.code = some x) (hs : seed.length ≤ 100000000) (he : (en.length : Int) = x.len * x.n) :
    Fun Tryd.prog Gs 38 [Enc.enc x, Enc.enc seed, Enc.enc en, Enc.enc leaf] (Enc.enc (ltreeS x seed en leaf)) := by
  refine Fun_cc [] mo Tryd.func38 (by decide) cc38 rs38 Tryd.ntmps38 (by simp) ?_
  have hx32 : 0 ≤ x.n ∧ x.n ≤ 32 ∧ 0 ≤ x.len ∧ x.len ≤ 67 ∧ 51 ≤ x.len := by rcases xmsT_n hx with ⟨h, _⟩ | ⟨h, _⟩ <;> omega
  have hroom : ∀ i : Nat, (i : Int) < x.len → (i + 1) * x.n.toNat ≤ en.length ∧ en.length ≤ 2144 := by
    intro i hi
    rcases xmsT_n hx with ⟨h1, h2⟩ | ⟨h1, h2⟩
    · rw [h1, h2] at he; rw [h2] at hi; rw [h1]; show (i + 1) * 24 ≤ _ ∧ _; omega
    · rw [h1, h2] at he; rw [h2] at hi; rw [h1]; show (i + 1) * 32 ≤ _ ∧ _; omega
  have hn0 := CtOK_nil (P := Tryd.prog) (Gl := Gs)
  refine AW_run hn0 1000 ?_
  simp (maxSteps := 10000000) (disch := omega) only [go_sem, c38, xmC, reduceIte, seval, -BitVec.isValue, -BitVec.reduceOfNat, -List.reduceReplicate]
  refine AW_loop (σrlA x seed en leaf) (fun k => (k : Int) ≤ x.len) (fun k => x.len.toNat - k) 0 (by simp; omega) (Wk_p [] ?_) fun k hk' => ?_
  · simp only [go_sem, σrlA, xmC, reduceIte, seval, -BitVec.isValue, -BitVec.reduceOfNat, -List.reduceReplicate]
    try simp [chunks]
  · have hcl := chunks_len x en k
    by_cases hc : (k : Int) < x.len
    · obtain ⟨r1, r2⟩ := hroom k hc
      rw [Nat.succ_mul] at r1
      have hxn : x.n = (x.n.toNat : Int) := by omega
      have q1 : (k : Int) * x.n = ((k * x.n.toNat : Nat) : Int) := by rw [Int.natCast_mul, ← hxn]
      have q2 : ((k : Int) + 1) * x.n = ((k * x.n.toNat + x.n.toNat : Nat) : Int) := by rw [Int.add_mul, q1, Int.one_mul]; omega
      have q3 : k * x.n.toNat + x.n.toNat - k * x.n.toNat = x.n.toNat := by omega
      have hcs := chunks_succ x en k
      have hpl : ((en.drop (k * x.n.toNat)).take x.n.toNat).length = x.n.toNat := by simp; omega
      obtain ⟨y, hy⟩ : ∃ y, y = (en.drop (k * x.n.toNat)).take x.n.toNat := ⟨_, rfl⟩
      rw [← hy] at hcs hpl
      refine AW_ct [] (AW_run hn0 1000 ?_)
      simp (maxSteps := 10000000) (disch := omega) only [go_sem, σrlA, xmC, hc, q1, q2, q3, ← hy, hpl, reduceIte, seval, -BitVec.isValue, -BitVec.reduceOfNat, -List.reduceReplicate]
      refine ⟨k + 1, by omega, Wk_p [(1, 3)] ?_, by omega⟩
      simp only [go_sem, σrlA, xmC, hcs, reduceIte, seval, -BitVec.isValue, -BitVec.reduceOfNat, -List.reduceReplicate]
      simp [hpl, enc_By]
    · have hge : k = x.len.toNat := by omega
      subst hge
      have hres : ltR x seed leaf 67 0 (chunks x en x.len.toNat) = ltreeS x seed en leaf := rfl
      have hallc : allN x.n.toNat (chunks x en x.len.toNat) := allN_chunks x en _ (by
        have := hroom (x.len.toNat - 1) (by omega)
        rw [show x.len.toNat - 1 + 1 = x.len.toNat by omega] at this
        exact this.1)
      refine AW_ct [] (AW_run hn0 1000 ?_)
      simp (maxSteps := 10000000) (disch := omega) only [go_sem, σrlA, xmC, hc, reduceIte, seval, -BitVec.isValue, -BitVec.reduceOfNat, -List.reduceReplicate]
      refine AW_loop (σrlB x seed leaf) (IL x seed leaf (ltreeS x seed en leaf)) (fun p => p.2.length) (0, chunks x en x.len.toNat) ⟨by rw [hcl]; omega, by rw [hcl]; omega, hallc, hres⟩ (Wk_p [] ?_) fun p hp => ?_
      · simp only [go_sem, σrlB, xmC, reduceIte, seval, -BitVec.isValue, -BitVec.reduceOfNat, -List.reduceReplicate]
        try simp
      · obtain ⟨h, L⟩ := p
        obtain ⟨i1, i2, i3, i4⟩ := hp
        simp only at i1 i2 i3 i4
        by_cases hL : 1 < L.length
        · have hL' : (1 : Int) < (L.length : Int) := by omega
          refine AW_ct [] (AW_run hn0 1000 ?_)
          simp (maxSteps := 10000000) (disch := omega) only [go_sem, σrlB, xmC, hL', reduceIte, seval, -BitVec.isValue, -BitVec.reduceOfNat, -List.reduceReplicate]
          refine AW_loop (σrlC x seed leaf h L) (fun i => i ≤ L.length / 2) (fun i => L.length / 2 - i) 0 (Nat.zero_le _) (Wk_p [] ?_) fun i hi => ?_
          · simp only [go_sem, σrlC, xmC, reduceIte, seval, -BitVec.isValue, -BitVec.reduceOfNat, -List.reduceReplicate]
            try simp [pairS]
          · have hpl := pairS_len x seed leaf (BitVec.ofNat 32 h) L i
            by_cases hil : i < L.length / 2
            · have hil' : ((2 * i : Nat) : Int) + 1 < (L.length : Int) := by omega
              have hps := pairS_succ x seed leaf (BitVec.ofNat 32 h) L i
              have a1 := i3 (2 * i) (by omega)
              have a2 := i3 (2 * i + 1) (by omega)
              have e1 : ((2 * i : Nat) : Int) / 2 = (i : Int) := by omega
              have e2 : ((2 * i : Nat) : Int) + 1 = ((2 * i + 1 : Nat) : Int) := by omega
              have hil2 : ((2 * i + 1 : Nat) : Int) < (L.length : Int) := by omega
              have w1 : BitVec.ofInt 32 1 = 1#32 := rfl
              have hwe : adK 1#32 leaf (BitVec.ofNat 32 h) (BitVec.ofInt 32 (i : Int)) = adL leaf (BitVec.ofNat 32 h) (BitVec.ofInt 32 (i : Int)) := rfl
              have hwl : (adL leaf (BitVec.ofNat 32 h) (BitVec.ofInt 32 (i : Int))).length = 8 := rfl
              have hnl := nodeS_len hx seed (adL leaf (BitVec.ofNat 32 h) (BitVec.ofInt 32 (i : Int))) (L.getD (2 * i) []) (L.getD (2 * i + 1) [])
              obtain ⟨y, hy⟩ : ∃ y, y = nodeS x seed (adL leaf (BitVec.ofNat 32 h) (BitVec.ofInt 32 (i : Int))) (L.getD (2 * i) []) (L.getD (2 * i + 1) []) := ⟨_, rfl⟩
              rw [← hy] at hps hnl
              have hct := ctRXAt_ok (ctRNode_ok hn0)
              refine AW_ct [ctRXAt, ctRNode] (AW_run hct 1000 ?_)
              simp (maxSteps := 10000000) (disch := omega) only [go_sem, σrlC, ctRXAt, ctRNode, xmC, hx, e2, hil2, e1, w1, hwe, hwl, a1, a2, ← hy, hnl, Int.tdiv_eq_ediv_of_nonneg, reduceIte, seval, -BitVec.isValue, -BitVec.reduceOfNat, -List.reduceReplicate]
              refine ⟨i + 1, by omega, Wk_uf 4 [] (Wk_p [(2, 4)] ?_), by omega⟩
              simp only [go_sem, σrlC, xmC, ufF, ufH, hps, List.map_append, reduceIte, seval, -BitVec.isValue, -BitVec.reduceOfNat, -List.reduceReplicate]
              simp [hnl, enc_By]
              try omega
            · have hie : i = L.length / 2 := by omega
              subst hie
              have hul := upS_len x seed leaf (BitVec.ofNat 32 h) L
              have hua := allN_up hx seed leaf (BitVec.ofNat 32 h) L i3
              have hst := ltR_step x seed leaf h L hL i2
              rw [i4] at hst
              have hh := h32_succ h
              have hil' : ¬ ((2 * (L.length / 2) : Nat) : Int) + 1 < (L.length : Int) := by omega
              refine AW_ct [] (AW_run hn0 1000 ?_)
              by_cases ho : L.length % 2 = 1
              · have ho' : (L.length : Int) % 2 = 1 := by omega
                have e3 : (L.length : Int) - 1 = ((L.length - 1 : Nat) : Int) := by omega
                have hu : upS x seed leaf (BitVec.ofNat 32 h) L = pairS x seed leaf (BitVec.ofNat 32 h) L (L.length / 2) ++ [L.getD (L.length - 1) []] := by rw [upS, if_pos ho]
                have a3 := i3 (L.length - 1) (by omega)
                simp (maxSteps := 10000000) (disch := omega) only [go_sem, σrlC, xmC, eq_false hil', Int.tmod_eq_emod_of_nonneg, ho', e3, hh, reduceIte, seval, -BitVec.isValue, -BitVec.reduceOfNat, -List.reduceReplicate]
                refine ⟨(h + 1, upS x seed leaf (BitVec.ofNat 32 h) L), ⟨by simp only; omega, by simp only; omega, hua, hst.symm⟩, Wk_p [(1, 4)] ?_, by simp only; omega⟩
                simp only [go_sem, σrlB, xmC, hu, List.map_append, reduceIte, seval, -BitVec.isValue, -BitVec.reduceOfNat, -List.reduceReplicate]
                simp [enc_By]
                exact hh
              · have ho' : ¬ (L.length : Int) % 2 = 1 := by omega
                have hu : upS x seed leaf (BitVec.ofNat 32 h) L = pairS x seed leaf (BitVec.ofNat 32 h) L (L.length / 2) := by rw [upS, if_neg ho, List.append_nil]
                simp (maxSteps := 10000000) (disch := omega) only [go_sem, σrlC, xmC, eq_false hil', Int.tmod_eq_emod_of_nonneg, eq_false ho', hh, reduceIte, seval, -BitVec.isValue, -BitVec.reduceOfNat, -List.reduceReplicate]
                refine ⟨(h + 1, upS x seed leaf (BitVec.ofNat 32 h) L), ⟨by simp only; omega, by simp only; omega, hua, hst.symm⟩, Wk_p [(1, 2)] ?_, by simp only; omega⟩
                simp only [go_sem, σrlB, xmC, hu, reduceIte, seval, -BitVec.isValue, -BitVec.reduceOfNat, -List.reduceReplicate]
                try simp
                exact hh
        · have hL' : ¬ (1 : Int) < (L.length : Int) := by omega
          have h1 := ltR_one x seed leaf h L (by omega)
          rw [i4] at h1
          rw [h1]
          refine AW_ct [] (AW_run hn0 1000 ?_)
          simp (maxSteps := 10000000) (disch := omega) only [go_sem, σrlB, xmC, eq_false hL', reduceIte, seval, -BitVec.isValue, -BitVec.reduceOfNat, -List.reduceReplicate]
          try simp
def ctRLtree : Nat × (List AV → R) := (38, A4 fun (x : Xms) (seed en : By) (leaf : BitVec 32) => (xmsT x.code = some x ∧ seed.length ≤ 100000000 ∧ (en.length : Int) = x.len * x.n, Enc.enc (ltreeS x seed en leaf)))
theorem ctRLtree_ok {Ct : List (Nat × (List AV → R))} (h : CtOK Tryd.prog Gs Ct) : CtOK Tryd.prog Gs (ctRLtree :: Ct) := CtOK_cons (Row4 fun x seed en leaf h => rLtree_fun x seed en leaf h.1 h.2.1 h.2.2) h
end Go.Lv
