/- A part of the proof (GI). -/
import Derived.Test.YtjehnljbhmjgoaaGreatDoorGH
import Derived.Test.YtjehnljbhmjgoaaGreatDoorGK
import Derived.Test.YtjehnljbhmjgoaaGreatDoorGG
import Derived.Test.YtjehnljbhmjgoaaGreatDoorFF
set_option linter.all false
namespace Go.Lv
open Go Go.Proofs
set_option linter.unusedSimpArgs false
set_option maxRecDepth 100000
def adL (leaf h i : BitVec 32) : List (BitVec 32) := [0, 0, 0, 1, leaf, h, i, 0]
def chunks (x : Xms) (ends' : By) (k : Nat) : List By := (List.range k).map fun i => (ends'.drop (i * x.n.toNat)).take x.n.toNat
def pairS (x : Xms) (seed : By) (leaf h : BitVec 32) (L : List By) (k : Nat) : List By := (List.range k).map fun (i : Nat) => nodeS x seed (adL leaf h (BitVec.ofInt 32 (i : Int))) (L.getD (2 * i) []) (L.getD (2 * i + 1) [])
def upS (x : Xms) (seed : By) (leaf h : BitVec 32) (L : List By) : List By := pairS x seed leaf h L (L.length / 2) ++ (if L.length % 2 = 1 then [L.getD (L.length - 1) []] else [])
def ltR (x : Xms) (seed : By) (leaf : BitVec 32) : Nat → Nat → List By → By
  | 0, _, L => L.getD 0 []
  | f + 1, h, L => if L.length ≤ 1 then L.getD 0 [] else ltR x seed leaf f (h + 1) (upS x seed leaf (BitVec.ofNat 32 h) L)
def ltreeS (x : Xms) (seed ends' : By) (leaf : BitVec 32) : By := ltR x seed leaf 67 0 (chunks x ends' x.len.toNat)
def allN (n : Nat) (L : List By) : Prop := ∀ i, i < L.length → (L.getD i []).length = n
theorem chunks_len (x : Xms) (e : By) (k : Nat) : (chunks x e k).length = k := by simp [chunks]
theorem chunks_succ (x : Xms) (e : By) (k : Nat) : chunks x e (k + 1) = chunks x e k ++ [(e.drop (k * x.n.toNat)).take x.n.toNat] := by simp [chunks, List.range_succ]
theorem pairS_len (x : Xms) (seed : By) (leaf h : BitVec 32) (L : List By) (k : Nat) : (pairS x seed leaf h L k).length = k := by simp [pairS]
theorem pairS_succ (x : Xms) (seed : By) (leaf h : BitVec 32) (L : List By) (k : Nat) : pairS x seed leaf h L (k + 1) = pairS x seed leaf h L k ++ [nodeS x seed (adL leaf h (BitVec.ofInt 32 (k : Int))) (L.getD (2 * k) []) (L.getD (2 * k + 1) [])] := by simp [pairS, List.range_succ]
theorem upS_len (x : Xms) (seed : By) (leaf h : BitVec 32) (L : List By) : (upS x seed leaf h L).length = (L.length + 1) / 2 := by
  unfold upS
  split <;> simp [pairS_len] <;> omega
theorem allN_app {n : Nat} {A B : List By} (a : allN n A) (b : allN n B) : allN n (A ++ B) := by
  intro i hi
  by_cases h : i < A.length
  · rw [getD_app1 _ _ _ _ h]; exact a i h
  · rw [getD_app2 _ _ _ _ (by omega)]; exact b _ (by rw [List.length_append] at hi; omega)
theorem allN_one {n : Nat} {y : By} (h : y.length = n) : allN n [y] := by
  intro i hi
  simp only [List.length_singleton] at hi
  rw [show i = 0 by omega]; exact h
theorem allN_nil {n : Nat} : allN n [] := fun i hi => by simp at hi
theorem allN_pair {x : Xms} (hx : xmsT x.code = some x) (seed : By) (leaf h : BitVec 32) (L : List By) : ∀ k, allN x.n.toNat (pairS x seed leaf h L k)
  | 0 => allN_nil
  | k + 1 => by rw [pairS_succ]; exact allN_app (allN_pair hx seed leaf h L k) (allN_one (nodeS_len hx _ _ _ _))
theorem allN_up {x : Xms} (hx : xmsT x.code = some x) (seed : By) (leaf h : BitVec 32) (L : List By) (hL : allN x.n.toNat L) : allN x.n.toNat (upS x seed leaf h L) := by
  unfold upS
  refine allN_app (allN_pair hx _ _ _ _ _) ?_
  split
  · exact allN_one (hL _ (by omega))
  · exact allN_nil
theorem allN_chunks (x : Xms) (e : By) : ∀ k, k * x.n.toNat ≤ e.length → allN x.n.toNat (chunks x e k)
  | 0, _ => allN_nil
  | k + 1, h => by
    rw [Nat.succ_mul] at h
    rw [chunks_succ]; exact allN_app (allN_chunks x e k (by omega)) (allN_one (by simp; omega))
theorem ltR_more (x : Xms) (seed : By) (leaf : BitVec 32) : ∀ (f g h : Nat) (L : List By), L.length ≤ f + 1 → L.length ≤ g + 1 → ltR x seed leaf f h L = ltR x seed leaf g h L
  | 0, 0, _, _, _, _ => rfl
  | 0, g + 1, h, L, h1, _ => by rw [ltR, ltR, if_pos (by omega)]
  | f + 1, 0, h, L, _, h2 => by rw [ltR, ltR, if_pos (by omega)]
  | f + 1, g + 1, h, L, h1, h2 => by
    rw [ltR, ltR]
    split
    · rfl
    · exact ltR_more x seed leaf f g (h + 1) _ (by rw [upS_len]; omega) (by rw [upS_len]; omega)
theorem ltR_step (x : Xms) (seed : By) (leaf : BitVec 32) (h : Nat) (L : List By) (h1 : 1 < L.length) (h2 : L.length ≤ 67) : ltR x seed leaf 67 h L = ltR x seed leaf 67 (h + 1) (upS x seed leaf (BitVec.ofNat 32 h) L) := by
  rw [show ltR x seed leaf 67 h L = if L.length ≤ 1 then L.getD 0 [] else ltR x seed leaf 66 (h + 1) (upS x seed leaf (BitVec.ofNat 32 h) L) from rfl, if_neg (by omega)]
  exact ltR_more x seed leaf 66 67 (h + 1) _ (by rw [upS_len]; omega) (by rw [upS_len]; omega)
theorem ltR_one (x : Xms) (seed : By) (leaf : BitVec 32) (h : Nat) (L : List By) (h1 : L.length ≤ 1) : ltR x seed leaf 67 h L = L.getD 0 [] := by
  rw [show ltR x seed leaf 67 h L = if L.length ≤ 1 then L.getD 0 [] else ltR x seed leaf 66 (h + 1) (upS x seed leaf (BitVec.ofNat 32 h) L) from rfl, if_pos h1]
theorem ltR_len {x : Xms} (hx : xmsT x.code = some x) (seed : By) (leaf : BitVec 32) : ∀ (f h : Nat) (L : List By), 1 ≤ L.length → allN x.n.toNat L → (ltR x seed leaf f h L).length = x.n.toNat
  | 0, h, L, h1, hL => hL 0 (by omega)
  | f + 1, h, L, h1, hL => by
    rw [ltR]
    split
    · exact hL 0 (by omega)
    · exact ltR_len hx seed leaf f (h + 1) _ (by rw [upS_len]; omega) (allN_up hx _ _ _ _ hL)
theorem h32_succ (h : Nat) : BitVec.ofNat 32 h + 1#32 = BitVec.ofNat 32 (h + 1) := by rw [← BitVec.ofNat_add]
end Go.Lv
namespace Go.Lv
open Go Go.Proofs
set_option linter.unusedSimpArgs false
set_option maxRecDepth 100000
def σl1 (x : Xms) (seed en : By) (leaf : BitVec 32) (k : Nat) : St :=
  ⟨[(1, Enc.enc seed), (2, Enc.enc en), (3, .u32 leaf), (4, .ptr 0 0), (9, .sl 1 0 (chunks x en k).length 1), (15, .i x.len), (16, .i k)], [(0, ⟨xmC x, true⟩), (1, ⟨(chunks x en k).map Enc.enc, true⟩)], 2⟩
def σl2 (x : Xms) (seed : By) (leaf : BitVec 32) (p : Nat × List By) : St :=
  ⟨[(1, Enc.enc seed), (3, .u32 leaf), (4, .ptr 0 0), (9, .sl 1 0 p.2.length 1), (11, .u32 (BitVec.ofNat 32 p.1))], [(0, ⟨xmC x, true⟩), (1, ⟨p.2.map Enc.enc, true⟩)], 2⟩
def σl3 (x : Xms) (seed : By) (leaf : BitVec 32) (h : Nat) (L : List By) (i : Nat) : St :=
  ⟨[(1, Enc.enc seed), (3, .u32 leaf), (4, .ptr 0 0), (9, .sl 1 0 L.length 1), (11, .u32 (BitVec.ofNat 32 h)), (12, .sl 2 0 (pairS x seed leaf (BitVec.ofNat 32 h) L i).length 1), (41, .i (L.length / 2 : Nat)), (42, .i i)], [(0, ⟨xmC x, true⟩), (1, ⟨L.map Enc.enc, true⟩), (2, ⟨(pairS x seed leaf (BitVec.ofNat 32 h) L i).map Enc.enc, true⟩)], 3⟩
def IL (x : Xms) (seed : By) (leaf : BitVec 32) (res : By) (p : Nat × List By) : Prop := 1 ≤ p.2.length ∧ p.2.length ≤ 67 ∧ allN x.n.toNat p.2 ∧ ltR x seed leaf 67 p.1 p.2 = res
theorem enc_By (y : By) : (Enc.enc y : AV) = .ros false y.length (y.map .u8) := rfl
set_option maxHeartbeats 8000000 in
theorem ltree_fun (x : Xms) (seed en : By) (leaf : BitVec 32) (hx : xmsT x.code = some x) (hs : seed.length ≤ 100000000) (he : (en.length : Int) = x.len * x.n) :
    Fun Tryz.prog Gs 200 [Enc.enc x, Enc.enc seed, Enc.enc en, Enc.enc leaf] (Enc.enc (ltreeS x seed en leaf)) := by
  refine Fun_cc [] mo Tryz.func200 (by decide) cc200 rs200 Tryz.ntmps200 (by simp) ?_
  have hx32 : 0 ≤ x.n ∧ x.n ≤ 32 ∧ 0 ≤ x.len ∧ x.len ≤ 67 ∧ 51 ≤ x.len := by rcases xmsT_n hx with ⟨h, _⟩ | ⟨h, _⟩ <;> omega
  have hroom : ∀ i : Nat, (i : Int) < x.len → (i + 1) * x.n.toNat ≤ en.length ∧ en.length ≤ 2144 := by
    intro i hi
    rcases xmsT_n hx with ⟨h1, h2⟩ | ⟨h1, h2⟩
    · rw [h1, h2] at he; rw [h2] at hi; rw [h1]; show (i + 1) * 24 ≤ _ ∧ _; omega
    · rw [h1, h2] at he; rw [h2] at hi; rw [h1]; show (i + 1) * 32 ≤ _ ∧ _; omega
  have hn0 := CtOK_nil (P := Tryz.prog) (Gl := Gs)
  refine AW_run hn0 1000 ?_
  simp (maxSteps := 10000000) (disch := omega) only [go_sem, c200, xmC, reduceIte, seval, -BitVec.isValue, -BitVec.reduceOfNat, -List.reduceReplicate]
  refine AW_null 9 1 (by simp only [go_sem, reduceIte, seval, -BitVec.isValue, -BitVec.reduceOfNat, -List.reduceReplicate]) ?_
  refine AW_loop (σl1 x seed en leaf) (fun k => (k : Int) ≤ x.len) (fun k => x.len.toNat - k) 0 (by simp; omega) (Wk_p [] ?_) fun k hk' => ?_
  · simp only [go_sem, σl1, xmC, reduceIte, seval, -BitVec.isValue, -BitVec.reduceOfNat, -List.reduceReplicate]
    try simp [chunks]
  · have hcl := chunks_len x en k
    by_cases hc : (k : Int) < x.len
    · obtain ⟨r1, r2⟩ := hroom k hc
      rw [Nat.succ_mul] at r1
      have hxn : x.n = (x.n.toNat : Int) := by omega
      have q1 : (k : Int) * x.n = ((k * x.n.toNat : Nat) : Int) := by rw [Int.natCast_mul, ← hxn]
      have q2 : ((k : Int) + 1) * x.n = ((k * x.n.toNat + x.n.toNat : Nat) : Int) := by rw [Int.add_mul, q1, Int.one_mul]; omega
      have q3 : k * x.n.toNat + x.n.toNat - k * x.n.toNat = x.n.toNat := by omega
      have hcs := chunks_succ x en k
      have hpl : ((en.drop (k * x.n.toNat)).take x.n.toNat).length = x.n.toNat := by simp; omega
      have hpl2 : min x.n.toNat (en.length - k * x.n.toNat) = x.n.toNat := by omega
      obtain ⟨y, hy⟩ : ∃ y, y = (en.drop (k * x.n.toNat)).take x.n.toNat := ⟨_, rfl⟩
      rw [← hy] at hcs hpl
      refine AW_ct [] (AW_run hn0 1000 ?_)
      simp (maxSteps := 10000000) (disch := omega) only [go_sem, σl1, xmC, hc, q1, q2, q3, ← hy, hpl, reduceIte, seval, -BitVec.isValue, -BitVec.reduceOfNat, -List.reduceReplicate]
      refine ⟨k + 1, by omega, Wk_p [(1, 3)] ?_, by omega⟩
      simp only [go_sem, σl1, xmC, hcs, reduceIte, seval, -BitVec.isValue, -BitVec.reduceOfNat, -List.reduceReplicate]
      simp [hpl, enc_By]
    · have hge : k = x.len.toNat := by omega
      subst hge
      have hres : ltR x seed leaf 67 0 (chunks x en x.len.toNat) = ltreeS x seed en leaf := rfl
      have hallc : allN x.n.toNat (chunks x en x.len.toNat) := allN_chunks x en _ (by
        have := hroom (x.len.toNat - 1) (by omega)
        rw [show x.len.toNat - 1 + 1 = x.len.toNat by omega] at this
        exact this.1)
      refine AW_ct [] (AW_run hn0 1000 ?_)
      simp (maxSteps := 10000000) (disch := omega) only [go_sem, σl1, xmC, hc, reduceIte, seval, -BitVec.isValue, -BitVec.reduceOfNat, -List.reduceReplicate]
      refine AW_loop (σl2 x seed leaf) (IL x seed leaf (ltreeS x seed en leaf)) (fun p => p.2.length) (0, chunks x en x.len.toNat) ⟨by rw [hcl]; omega, by rw [hcl]; omega, hallc, hres⟩ (Wk_p [] ?_) fun p hp => ?_
      · simp only [go_sem, σl2, xmC, reduceIte, seval, -BitVec.isValue, -BitVec.reduceOfNat, -List.reduceReplicate]
        try simp
      · obtain ⟨h, L⟩ := p
        obtain ⟨i1, i2, i3, i4⟩ := hp
        simp only at i1 i2 i3 i4
        by_cases hL : 1 < L.length
        · have hL' : (1 : Int) < (L.length : Int) := by omega
          have hdiv : (L.length : Int) / 2 = ((L.length / 2 : Nat) : Int) := rfl
          refine AW_ct [] (AW_run hn0 1000 ?_)
          simp (maxSteps := 10000000) (disch := omega) only [go_sem, σl2, xmC, hL', Int.tdiv_eq_ediv_of_nonneg, hdiv, reduceIte, seval, -BitVec.isValue, -BitVec.reduceOfNat, -List.reduceReplicate]
          refine AW_null 12 1 (by simp only [go_sem, reduceIte, seval, -BitVec.isValue, -BitVec.reduceOfNat, -List.reduceReplicate]) ?_
          refine AW_loop (σl3 x seed leaf h L) (fun i => i ≤ L.length / 2) (fun i => L.length / 2 - i) 0 (Nat.zero_le _) (Wk_p [] ?_) fun i hi => ?_
          · simp only [go_sem, σl3, xmC, reduceIte, seval, -BitVec.isValue, -BitVec.reduceOfNat, -List.reduceReplicate]
            try simp [pairS]
          · have hpl := pairS_len x seed leaf (BitVec.ofNat 32 h) L i
            by_cases hil : i < L.length / 2
            · have hil' : (i : Int) < ((L.length / 2 : Nat) : Int) := by omega
              have hps := pairS_succ x seed leaf (BitVec.ofNat 32 h) L i
              have a1 := i3 (2 * i) (by omega)
              have a2 := i3 (2 * i + 1) (by omega)
              have e1 : (2 : Int) * (i : Int) = ((2 * i : Nat) : Int) := by omega
              have e2 : ((2 * i : Nat) : Int) + 1 = ((2 * i + 1 : Nat) : Int) := by omega
              have hwe : ([.u32 0, .u32 0, .u32 0, .u32 1, .u32 leaf, .u32 (BitVec.ofNat 32 h), .u32 (BitVec.ofInt 32 (i : Int)), .u32 0] : List AV) = (adL leaf (BitVec.ofNat 32 h) (BitVec.ofInt 32 (i : Int))).map .u32 := rfl
              have hwl : (adL leaf (BitVec.ofNat 32 h) (BitVec.ofInt 32 (i : Int))).length = 8 := rfl
              have hnl := nodeS_len hx seed (adL leaf (BitVec.ofNat 32 h) (BitVec.ofInt 32 (i : Int))) (L.getD (2 * i) []) (L.getD (2 * i + 1) [])
              obtain ⟨y, hy⟩ : ∃ y, y = nodeS x seed (adL leaf (BitVec.ofNat 32 h) (BitVec.ofInt 32 (i : Int))) (L.getD (2 * i) []) (L.getD (2 * i + 1) []) := ⟨_, rfl⟩
              rw [← hy] at hps hnl
              have hct := ctNode_ok hn0
              refine AW_ct [ctNode] (AW_run hct 1000 ?_)
              simp (maxSteps := 10000000) (disch := omega) only [go_sem, σl3, ctNode, xmC, hx, hil', e1, e2, hwe, hwl, a1, a2, ← hy, hnl, reduceIte, seval, -BitVec.isValue, -BitVec.reduceOfNat, -List.reduceReplicate]
              refine ⟨i + 1, by omega, Wk_uf 4 [] (Wk_p [(2, 4)] ?_), by omega⟩
              simp only [go_sem, ufF, ufH, hps, List.map_append, reduceIte, seval, -BitVec.isValue, -BitVec.reduceOfNat, -List.reduceReplicate]
              simp [hnl, enc_By]
            · have hie : i = L.length / 2 := by omega
              subst hie
              have hul := upS_len x seed leaf (BitVec.ofNat 32 h) L
              have hua := allN_up hx seed leaf (BitVec.ofNat 32 h) L i3
              have hst := ltR_step x seed leaf h L hL i2
              rw [i4] at hst
              have hh := h32_succ h
              refine AW_ct [] (AW_run hn0 1000 ?_)
              by_cases ho : L.length % 2 = 1
              · have ho' : (L.length : Int) % 2 = 1 := by omega
                have e3 : (L.length : Int) - 1 = ((L.length - 1 : Nat) : Int) := by omega
                have hu : upS x seed leaf (BitVec.ofNat 32 h) L = pairS x seed leaf (BitVec.ofNat 32 h) L (L.length / 2) ++ [L.getD (L.length - 1) []] := by rw [upS, if_pos ho]
                have a3 := i3 (L.length - 1) (by omega)
                simp (maxSteps := 10000000) (disch := omega) only [go_sem, σl3, xmC, Int.tmod_eq_emod_of_nonneg, ho', e3, hh, reduceIte, seval, -BitVec.isValue, -BitVec.reduceOfNat, -List.reduceReplicate]
                refine ⟨(h + 1, upS x seed leaf (BitVec.ofNat 32 h) L), ⟨by simp only; omega, by simp only; omega, hua, hst.symm⟩, Wk_p [(1, 4)] ?_, by simp only; omega⟩
                simp only [go_sem, xmC, hu, List.map_append, reduceIte, seval, -BitVec.isValue, -BitVec.reduceOfNat, -List.reduceReplicate]
                simp [enc_By]
                exact hh
              · have ho' : ¬ (L.length : Int) % 2 = 1 := by omega
                have hu : upS x seed leaf (BitVec.ofNat 32 h) L = pairS x seed leaf (BitVec.ofNat 32 h) L (L.length / 2) := by rw [upS, if_neg ho, List.append_nil]
                simp (maxSteps := 10000000) (disch := omega) only [go_sem, σl3, xmC, Int.tmod_eq_emod_of_nonneg, eq_false ho', hh, reduceIte, seval, -BitVec.isValue, -BitVec.reduceOfNat, -List.reduceReplicate]
                refine ⟨(h + 1, upS x seed leaf (BitVec.ofNat 32 h) L), ⟨by simp only; omega, by simp only; omega, hua, hst.symm⟩, Wk_p [(1, 2)] ?_, by simp only; omega⟩
                simp only [go_sem, xmC, hu, reduceIte, seval, -BitVec.isValue, -BitVec.reduceOfNat, -List.reduceReplicate]
                try simp
                exact hh
        · have hL' : ¬ (1 : Int) < (L.length : Int) := by omega
          have h1 := ltR_one x seed leaf h L (by omega)
          rw [i4] at h1
          rw [h1]
          refine AW_ct [] (AW_run hn0 1000 ?_)
          simp (maxSteps := 10000000) (disch := omega) only [go_sem, σl2, xmC, eq_false hL', reduceIte, seval, -BitVec.isValue, -BitVec.reduceOfNat, -List.reduceReplicate]
          try simp
theorem ltreeS_len {x : Xms} (hx : xmsT x.code = some x) (seed en : By) (leaf : BitVec 32) (he : (en.length : Int) = x.len * x.n) : (ltreeS x seed en leaf).length = x.n.toNat := by
  refine ltR_len hx seed leaf _ _ _ ?_ ?_
  · rw [chunks_len]; rcases xmsT_n hx with ⟨_, h⟩ | ⟨_, h⟩ <;> omega
  · refine allN_chunks x en _ ?_
    rcases xmsT_n hx with ⟨h1, h2⟩ | ⟨h1, h2⟩
    · rw [h1, h2] at he; rw [h1, h2]; show 51 * 24 ≤ _; omega
    · rw [h1, h2] at he; rw [h1, h2]; show 67 * 32 ≤ _; omega
def ctLtree : Nat × (List AV → R) := (200, A4 fun (x : Xms) (seed en : By) (leaf : BitVec 32) => (xmsT x.code = some x ∧ seed.length ≤ 100000000 ∧ (en.length : Int) = x.len * x.n, Enc.enc (ltreeS x seed en leaf)))
theorem ctLtree_ok {Ct : List (Nat × (List AV → R))} (h : CtOK Tryz.prog Gs Ct) : CtOK Tryz.prog Gs (ctLtree :: Ct) := CtOK_cons (Row4 fun x seed en leaf h => ltree_fun x seed en leaf h.1 h.2.1 h.2.2) h
end Go.Lv
namespace Go.Lv
open Go Go.Proofs
set_option linter.unusedSimpArgs false
set_option maxRecDepth 100000
end Go.Lv
namespace Go.Lv
open Go Go.Proofs
set_option linter.unusedSimpArgs false
set_option maxRecDepth 100000
def adO (i : BitVec 32) : List (BitVec 32) := [0, 0, 0, 0, i, 0, 0, 0]
def adT (h : Nat) (j : Nat) : List (BitVec 32) := [0, 0, 0, 2, 0, BitVec.ofNat 32 h, BitVec.ofNat 32 j, 0]
def leafS (x : Xms) (sd pb : By) (i : BitVec 32) : By := ltreeS x pb (ends x.len.toNat (endF x sd pb (adO i) pubN)) i
theorem pub_len {x : Xms} (hx : xmsT x.code = some x) (sd pb : By) (ws : List (BitVec 32)) : ((ends x.len.toNat (endF x sd pb ws pubN)).length : Int) = x.len * x.n := by
  have hxl := xms_len hx
  rw [ends_len _ (endF_len hx sd pb ws pubN), Int.natCast_mul, show (x.len.toNat : Int) = x.len by omega, show (x.n.toNat : Int) = x.n by omega]
theorem leafS_len {x : Xms} (hx : xmsT x.code = some x) (sd pb : By) (i : BitVec 32) : (leafS x sd pb i).length = x.n.toNat := ltreeS_len hx _ _ _ (pub_len hx _ _ _)
def nodeAt (x : Xms) (sd pb : By) : Nat → Nat → By
  | 0, j => leafS x sd pb (BitVec.ofNat 32 j)
  | h + 1, j => nodeS x pb (adT h j) (nodeAt x sd pb h (2 * j)) (nodeAt x sd pb h (2 * j + 1))
theorem nodeAt_len {x : Xms} (hx : xmsT x.code = some x) (sd pb : By) : ∀ h j, (nodeAt x sd pb h j).length = x.n.toNat
  | 0, j => leafS_len hx _ _ _
  | h + 1, j => nodeS_len hx _ _ _ _
def stk (n c : Nat) : List (Nat × Nat) := ((List.range 5).filter fun h => decide (c ≤ h) && decide (n / 2 ^ h % 2 = 1)).reverse.map fun h => (h, n / 2 ^ h - 1)
theorem stk_top : ∀ c < 5, ∀ n < 17, n / 2 ^ c % 2 = 1 → stk n c = stk n (c + 1) ++ [(c, n / 2 ^ c - 1)] := by decide +kernel
theorem stk_non : ∀ c < 5, ∀ n < 17, n / 2 ^ c % 2 = 0 → stk n c = [] ∨ ∃ p L, stk n c = L ++ [p] ∧ p.1 ≠ c := by
  have : ∀ c < 5, ∀ n < 17, n / 2 ^ c % 2 = 0 → stk n c = [] ∨ (((stk n c).getLast?.getD (c, 0)).1 ≠ c ∧ stk n c ≠ []) := by decide +kernel
  intro c hc n hn h
  rcases this c hc n hn h with h | ⟨h1, h2⟩
  · exact .inl h
  · refine .inr ⟨(stk n c).getLast h2, (stk n c).dropLast, (List.dropLast_concat_getLast h2).symm, ?_⟩
    rw [List.getLast?_eq_some_getLast h2] at h1
    exact h1
theorem stk_put : ∀ c < 5, ∀ n < 16, n % 2 ^ c = 2 ^ c - 1 ∧ n / 2 ^ c % 2 = 0 → stk n c ++ [(c, n / 2 ^ c)] = stk (n + 1) 0 := by decide +kernel
theorem stk_lenc : ∀ c < 6, ∀ n < 17, (stk n c).length ≤ 5 := by decide +kernel
theorem stk_all : ∀ h < 5, stk (2 ^ h) 0 = [(h, 0)] := by decide +kernel
theorem stk_zero : stk 0 0 = [] := by decide +kernel
def toldB (i n c h : Nat) : Bool := decide (((i / 2 ^ h) ^^^ 1) * 2 ^ h + 2 ^ h ≤ n) || (decide (((i / 2 ^ h) ^^^ 1) * 2 ^ h + 2 ^ h = n + 1) && decide (h < c))
theorem told_new : ∀ i < 16, ∀ n < 16, ∀ c < 5, n % 2 ^ c = 2 ^ c - 1 → ∀ h < 5, toldB i n (c + 1) h = if h = c ∧ n / 2 ^ c = (i / 2 ^ c) ^^^ 1 then true else toldB i n c h := by decide +kernel
theorem told_next : ∀ i < 16, ∀ n < 16, ∀ c < 5, n % 2 ^ c = 2 ^ c - 1 ∧ n / 2 ^ c % 2 = 0 → ∀ h < 5, toldB i n (c + 1) h = toldB i (n + 1) 0 h := by decide +kernel
theorem told_none : ∀ i < 16, ∀ h < 5, toldB i 0 0 h = false := by decide +kernel
theorem told_all : ∀ H < 5, ∀ i < 2 ^ H, ∀ h < H, toldB i (2 ^ H) 0 h = true := by decide +kernel
theorem ones_succ : ∀ n < 16, ∀ c < 5, n % 2 ^ c = 2 ^ c - 1 ∧ n / 2 ^ c % 2 = 1 → n % 2 ^ (c + 1) = 2 ^ (c + 1) - 1 ∧ c < 4 ∧ n / 2 ^ (c + 1) = n / 2 ^ c / 2 ∧ 2 * (n / 2 ^ c / 2) = n / 2 ^ c - 1 ∧ 2 * (n / 2 ^ c / 2) + 1 = n / 2 ^ c := by decide +kernel
end Go.Lv
namespace Go.Lv
open Go Go.Proofs
set_option linter.unusedSimpArgs false
set_option maxRecDepth 100000
theorem ends_put {n : Nat} {f g : Nat → By} (hf : ∀ i, (f i).length = n) (k : Nat) (v : By) (hg : ∀ i, g i = if i = k then v else f i) : ∀ p, k < p → (ends p f).take (k * n) ++ v ++ (ends p f).drop (k * n + n) = ends p g
  | 0, h => absurd h (Nat.not_lt_zero k)
  | p + 1, h => by
    have hl := ends_len f hf p
    rw [ends_succ, ends_succ]
    by_cases e : k = p
    · subst e
      rw [List.take_append_of_le_length (by omega), List.take_of_length_le (by omega), List.drop_of_length_le (by rw [List.length_append, hl, hf]; omega), List.append_nil, hg k, if_pos rfl]
      rw [ends_congr k (f := g) (g := f) fun i hi => by rw [hg i, if_neg (by omega)]]
    · have hm : k * n + n ≤ p * n := by rw [← Nat.succ_mul]; exact Nat.mul_le_mul_right n (by omega)
      rw [List.take_append_of_le_length (by omega), List.drop_append_of_le_length (by omega), hg p, if_neg (by omega), ← List.append_assoc, ends_put hf k v hg p (by omega)]
def pathF (x : Xms) (sd pb : By) (i n c h : Nat) : By := if toldB i n c h = true then nodeAt x sd pb h ((i / 2 ^ h) ^^^ 1) else List.replicate x.n.toNat 0#8
theorem pathF_len {x : Xms} (hx : xmsT x.code = some x) (sd pb : By) (i n c h : Nat) : (pathF x sd pb i n c h).length = x.n.toNat := by
  unfold pathF; split
  · exact nodeAt_len hx _ _ _ _
  · simp
def pathC (x : Xms) (sd pb : By) (i n c : Nat) : By := ends x.h.toNat (pathF x sd pb i n c)
theorem pathC_len {x : Xms} (hx : xmsT x.code = some x) (sd pb : By) (i n c : Nat) : (pathC x sd pb i n c).length = x.h.toNat * x.n.toNat := ends_len _ (pathF_len hx sd pb i n c) _
def pathS (x : Xms) (sd pb : By) (i : Nat) : By := ends x.h.toNat fun h => nodeAt x sd pb h ((i / 2 ^ h) ^^^ 1)
theorem pathS_len {x : Xms} (hx : xmsT x.code = some x) (sd pb : By) (i : Nat) : (pathS x sd pb i).length = x.h.toNat * x.n.toNat := ends_len _ (fun _ => nodeAt_len hx _ _ _ _) _
theorem path_told {x : Xms} (hx : xmsT x.code = some x) (sd pb : By) {i n c : Nat} (hi : i < 16) (hn : n < 16) (hc : c < x.h.toNat) (hh : x.h.toNat ≤ 4) (ho : n % 2 ^ c = 2 ^ c - 1) (he : n / 2 ^ c = (i / 2 ^ c) ^^^ 1) :
    (pathC x sd pb i n c).take (c * x.n.toNat) ++ nodeAt x sd pb c (n / 2 ^ c) ++ (pathC x sd pb i n c).drop (c * x.n.toNat + x.n.toNat) = pathC x sd pb i n (c + 1) := by
  let g : Nat → By := fun h => if h = c then nodeAt x sd pb c (n / 2 ^ c) else pathF x sd pb i n c h
  have h1 := ends_put (g := g) (pathF_len hx sd pb i n c) c (nodeAt x sd pb c (n / 2 ^ c)) (fun _ => rfl) x.h.toNat hc
  refine h1.trans (ends_congr _ fun h hlt => ?_)
  have ht := told_new i hi n hn c (by omega) ho h (by omega)
  show (if h = c then nodeAt x sd pb c (n / 2 ^ c) else pathF x sd pb i n c h) = pathF x sd pb i n (c + 1) h
  by_cases e : h = c
  · subst e
    rw [if_pos ⟨rfl, he⟩] at ht
    rw [if_pos rfl, pathF, if_pos ht, he]
  · rw [if_neg fun q => e q.1] at ht
    rw [if_neg e, pathF, pathF, ht]
theorem path_same {x : Xms} (sd pb : By) {i n c : Nat} (hi : i < 16) (hn : n < 16) (hc : c < 5) (hh : x.h.toNat ≤ 4) (ho : n % 2 ^ c = 2 ^ c - 1) (he : ¬ (c < x.h.toNat ∧ n / 2 ^ c = (i / 2 ^ c) ^^^ 1)) :
    pathC x sd pb i n (c + 1) = pathC x sd pb i n c := by
  refine ends_congr _ fun h hlt => ?_
  have ht := told_new i hi n hn c hc ho h (by omega)
  rw [if_neg fun q => he ⟨by omega, q.2⟩] at ht
  rw [pathF, pathF, ht]
theorem path_next {x : Xms} (sd pb : By) {i n c : Nat} (hi : i < 16) (hn : n < 16) (hc : c < 5) (hh : x.h.toNat ≤ 4) (ho : n % 2 ^ c = 2 ^ c - 1) (he : n / 2 ^ c % 2 = 0) :
    pathC x sd pb i n (c + 1) = pathC x sd pb i (n + 1) 0 := by
  refine ends_congr _ fun h hlt => ?_
  have ht := told_next i hi n hn c hc ⟨ho, he⟩ h (by omega)
  rw [pathF, pathF, ht]
theorem ends_zeros (n : Nat) : ∀ p, ends p (fun _ => List.replicate n 0#8) = List.replicate (p * n) 0#8
  | 0 => by simp [ends]
  | p + 1 => by rw [ends_succ, ends_zeros n p, Nat.succ_mul, List.replicate_append_replicate]
theorem path_zero {x : Xms} (sd pb : By) {i : Nat} (hi : i < 16) (hh : x.h.toNat ≤ 4) : pathC x sd pb i 0 0 = List.replicate (x.h.toNat * x.n.toNat) 0#8 := by
  rw [← ends_zeros]
  refine ends_congr _ fun h hlt => ?_
  rw [pathF, told_none i hi h (by omega)]; rfl
theorem path_all {x : Xms} (sd pb : By) {i : Nat} (hh : x.h.toNat ≤ 4) (hi : i < 2 ^ x.h.toNat) : pathC x sd pb i (2 ^ x.h.toNat) 0 = pathS x sd pb i := by
  refine ends_congr _ fun h hlt => ?_
  rw [pathF, told_all x.h.toNat (by omega) i hi h hlt]; rfl
end Go.Lv
namespace Go.Lv
open Go Go.Proofs
set_option linter.unusedSimpArgs false
set_option maxRecDepth 100000
def XKey.is : AV → Prop
  | .agg [a, b, c] => Enc.ok (List (BitVec 8)) a ∧ Enc.ok (List (BitVec 8)) b ∧ Enc.ok (List (BitVec 8)) c
  | _ => False
def XKey.of : AV → XKey
  | .agg [a, b, c] => ⟨Enc.dec a, Enc.dec b, Enc.dec c⟩
  | _ => ⟨[], [], []⟩
instance : Enc XKey where
  enc x := .agg [Enc.enc x.seed, Enc.enc x.prf, Enc.enc x.pub]
  ret x := .agg [Enc.ret x.seed, Enc.ret x.prf, Enc.ret x.pub]
  ok := XKey.is
  dec := XKey.of
  dflt := ⟨[], [], []⟩
  d := Enc.d (List (BitVec 8)) + 1
  sound x h := by
    unfold XKey.is at h
    split at h
    · have h1 := Enc.sound _ h.1
      have h2 := Enc.sound _ h.2.1
      have h3 := Enc.sound _ h.2.2
      simp only [XKey.of]; rw [← h1, ← h2, ← h3]
    · exact h.elim
  fz H k x h := by
    obtain ⟨k, rfl⟩ := Nat.exists_eq_add_of_le' h
    obtain ⟨a1, a2, a3, a4⟩ := Enc.fz H (k + Enc.d (List (BitVec 8))) x.seed (by omega)
    obtain ⟨b1, b2, b3, b4⟩ := Enc.fz H (k + Enc.d (List (BitVec 8))) x.prf (by omega)
    obtain ⟨c1, c2, c3, c4⟩ := Enc.fz H (k + Enc.d (List (BitVec 8))) x.pub (by omega)
    rw [← Nat.add_assoc]
    simp only [frz, List.map_cons, List.map_nil, a1, a2, a3, a4, b1, b2, b3, b4, c1, c2, c3, c4, and_self]
  ow x := by
    obtain ⟨a1, a2⟩ := Enc.ow x.seed
    obtain ⟨b1, b2⟩ := Enc.ow x.prf
    obtain ⟨c1, c2⟩ := Enc.ow x.pub
    simp [own, own.ownL, a1, a2, b1, b2, c1, c2]
  cl x := by simp [cln, cln.clnL, Enc.cl x.seed, Enc.cl x.prf, Enc.cl x.pub]
  rn m x := by
    obtain ⟨a1, a2⟩ := Enc.rn m x.seed
    obtain ⟨b1, b2⟩ := Enc.rn m x.prf
    obtain ⟨c1, c2⟩ := Enc.rn m x.pub
    simp [ren, ren.renL, a1, a2, b1, b2, c1, c2]
  ik n x := by
    obtain ⟨a1, a2⟩ := Enc.ik n x.seed
    obtain ⟨b1, b2⟩ := Enc.ik n x.prf
    obtain ⟨c1, c2⟩ := Enc.ik n x.pub
    constructor <;> simp [idk, idk.idkL, a1, a2, b1, b2, c1, c2]
@[go_sem] theorem enc_xk (x : XKey) : Enc.enc x = .agg [Enc.enc x.seed, Enc.enc x.prf, Enc.enc x.pub] := rfl
@[go_sem] theorem ret_xk (x : XKey) : Enc.ret x = .agg [Enc.ret x.seed, Enc.ret x.prf, Enc.ret x.pub] := rfl
@[go_sem] theorem ok_xk (a b c : AV) : Enc.ok XKey (.agg [a, b, c]) = (Enc.ok (List (BitVec 8)) a ∧ Enc.ok (List (BitVec 8)) b ∧ Enc.ok (List (BitVec 8)) c) := rfl
@[go_sem] theorem dec_xk (a b c : AV) : (Enc.dec (.agg [a, b, c]) : XKey) = ⟨Enc.dec a, Enc.dec b, Enc.dec c⟩ := rfl
@[go_sem] theorem xk_eta (k : XKey) : XKey.mk k.seed k.prf k.pub = k := rfl
theorem wpubV_ok {x : Xms} {sk seed : By} {ws : List (BitVec 32)} (hx : xmsT x.code = some x) (h1 : (sk.length : Int) = x.n) (h2 : (seed.length : Int) = x.n) : wmayE x [sk, seed] = 0 ∧ wpubV x sk seed ws = ends x.len.toNat (endF x sk seed ws pubN) := by
  have e : wmayE x [sk, seed] = 0 := by
    rw [wmayE, if_pos hx, if_pos]
    intro p hp
    simp only [List.mem_cons, List.not_mem_nil, or_false] at hp
    rcases hp with rfl | rfl <;> assumption
  exact ⟨e, by rw [wpubV, if_pos e]⟩
structure KOK (x : Xms) (k : XKey) : Prop where
  ok : xmsT x.code = some x
  s : (k.seed.length : Int) = x.n
  p : (k.prf.length : Int) = x.n
  b : (k.pub.length : Int) = x.n
theorem KOK.n {x : Xms} {k : XKey} (h : KOK x k) : 0 ≤ x.n ∧ x.n ≤ 32 ∧ 0 ≤ x.len ∧ x.len ≤ 67 ∧ 51 ≤ x.len := xms_len h.ok
set_option maxHeartbeats 1000000 in
theorem leaf_fun (x : Xms) (k : XKey) (i : BitVec 32) (h : KOK x k) : Fun Tryz.prog Gs 148 [Enc.enc x, Enc.enc k, Enc.enc i] (Enc.enc (leafS x k.seed k.pub i)) := by
  have hn := h.n
  have h1 := h.s
  have h2 := h.b
  obtain ⟨e1, e2⟩ := wpubV_ok (ws := adO i) h.ok h1 h2
  have hl := pub_len h.ok k.seed k.pub (adO i)
  have hlf : leafS x k.seed k.pub i = ltreeS x k.pub (ends x.len.toNat (endF x k.seed k.pub (adO i) pubN)) i := rfl
  have hwe : ([.u32 0, .u32 0, .u32 0, .u32 0, .u32 i, .u32 0, .u32 0, .u32 0] : List AV) = (adO i).map .u32 := rfl
  have hwe' : ([.u32 0#32, .u32 0#32, .u32 0#32, .u32 0#32, .u32 i, .u32 0#32, .u32 0#32, .u32 0#32] : List AV) = (adO i).map .u32 := rfl
  have hwl : (adO i).length = 8 := rfl
  have hct := ctWPublic_ok (ctLtree_ok (CtOK_nil (P := Tryz.prog) (Gl := Gs)))
  obtain ⟨E, hE⟩ : ∃ E, E = ends x.len.toNat (endF x k.seed k.pub (adO i) pubN) := ⟨_, rfl⟩
  rw [← hE] at e2 hl hlf
  refine Fun_cc _ mo Tryz.func148 (by decide) cc148 rs148 Tryz.ntmps148 (by simp) (AW_run hct 1000 ?_)
  simp (maxSteps := 10000000) (disch := omega) only [go_sem, c148, ctWPublic, ctLtree, xmC, hwe, hwe', hwl, e1, e2, h.ok, hl, ← hlf, reduceIte, seval, -BitVec.isValue, -BitVec.reduceOfNat, -List.reduceReplicate]
  try simp
def ctLeaf : Nat × (List AV → R) := (148, A3 fun (x : Xms) (k : XKey) (i : BitVec 32) => (KOK x k, Enc.enc (leafS x k.seed k.pub i)))
theorem ctLeaf_ok {Ct : List (Nat × (List AV → R))} (h : CtOK Tryz.prog Gs Ct) : CtOK Tryz.prog Gs (ctLeaf :: Ct) := CtOK_cons (Row3 fun x k i h => leaf_fun x k i h) h
end Go.Lv
namespace Go.Lv
open Go Go.Proofs
set_option linter.unusedSimpArgs false
set_option maxRecDepth 100000
def trC (x : Xms) (k : XKey) (sl : AV) (n : Int) : List AV := [.u32 x.code, .b x.shake, .i x.n, .i x.h, .i x.len, Enc.enc k.seed, Enc.enc k.prf, Enc.enc k.pub, sl, .i n]
def hC (x : Xms) (k : XKey) (p : Nat × Nat) : List AV := [.i p.1, .u32 (BitVec.ofNat 32 p.2), Enc.enc (nodeAt x k.seed k.pub p.1 p.2)]
def stC (x : Xms) (k : XKey) (L : List (Nat × Nat)) : List AV := L.flatMap (hC x k)
theorem stC_len (x : Xms) (k : XKey) : ∀ L : List (Nat × Nat), (stC x k L).length = 3 * L.length
  | [] => rfl
  | p :: L => by
    have ih := stC_len x k L
    simp only [stC, List.flatMap_cons, List.length_append, List.length_cons] at ih ⊢
    rw [ih, show (hC x k p).length = 3 from rfl]; omega
theorem stC_app (x : Xms) (k : XKey) (L : List (Nat × Nat)) (p : Nat × Nat) : stC x k (L ++ [p]) = stC x k L ++ hC x k p := by simp [stC]
set_option maxHeartbeats 1000000 in
theorem xtake_funG (x : Xms) (k : XKey) (A : List AV) (p : Nat × Nat) (m : Nat) (n : Int) (hA : A.length = 3 * m) (hm : m ≤ 1000) :
    FunG Tryz.prog Gs 149 [.ptr 0 8] [(0, ⟨trC x k (.sl 1 0 (m + 1) 3) n, false⟩), (1, ⟨A ++ hC x k p, false⟩)] (.agg (hC x k p)) [(0, ⟨trC x k (.sl 1 0 m 3) n, false⟩), (1, ⟨A ++ hC x k p, false⟩)] := by
  refine FunG_cc [] [0, 1] 2 mo Tryz.func149 (by decide) cc149 rs149 Tryz.ntmps149 (by simp) rfl (by decide) rfl ?_
  have hd : (A ++ hC x k p).drop (m * 3) = hC x k p := List.drop_left' (by omega)
  have hl : (A ++ hC x k p).length = m * 3 + 3 := by rw [List.length_append, hA, Nat.mul_comm]; rfl
  obtain ⟨S, hS⟩ : ∃ S, S = A ++ hC x k p := ⟨_, rfl⟩
  rw [← hS] at hd hl ⊢
  have hC3 : hC x k p = [.i p.1, .u32 (BitVec.ofNat 32 p.2), .ros false (nodeAt x k.seed k.pub p.1 p.2).length ((nodeAt x k.seed k.pub p.1 p.2).map .u8)] := rfl
  rw [hC3] at hd ⊢
  have e1 : ((m + 1 : Nat) : Int) - 1 = (m : Int) := by omega
  have e3 : m * 3 + 3 - m * 3 = 3 := by omega
  refine AW_run (CtOK_nil (P := Tryz.prog) (Gl := Gs)) 1000 ?_
  simp (maxSteps := 10000000) (disch := omega) only [go_sem, c149, trC, e1, hd, hl, e3, List.set_cons_zero, List.set_cons_succ, Nat.min_self, reduceIte, seval, -BitVec.isValue, -BitVec.reduceOfNat, -List.reduceReplicate]
  try simp
set_option maxHeartbeats 1000000 in
theorem xput_funG (x : Xms) (k : XKey) (A : List AV) (p : Nat × Nat) (m : Nat) (n : Int) (hA : A.length = 3 * m) (hm : m ≤ 1000) :
    FunG Tryz.prog Gs 150 [.ptr 0 8, .agg (hC x k p)] [(0, ⟨trC x k (.sl 1 0 m 3) n, false⟩), (1, ⟨A, false⟩)] (.tup []) [(0, ⟨trC x k (.sl 4 0 (m + 1) 3) n, false⟩), (4, ⟨A ++ hC x k p, false⟩)] := by
  refine FunG_cc [] [0, 1] 2 mo Tryz.func150 (by decide) cc150 rs150 Tryz.ntmps150 (by simp) rfl (by decide) rfl ?_
  have hC3 : hC x k p = [.i p.1, .u32 (BitVec.ofNat 32 p.2), .ros false (nodeAt x k.seed k.pub p.1 p.2).length ((nodeAt x k.seed k.pub p.1 p.2).map .u8)] := rfl
  rw [hC3]
  have hAt : A.take (m * 3) = A := List.take_of_length_le (by omega)
  have hAl : A.length = m * 3 := by omega
  have hn0 := CtOK_nil (P := Tryz.prog) (Gl := Gs)
  refine AW_run hn0 1 ?_
  simp (maxSteps := 10000000) (disch := omega) only [go_sem, c150, reduceIte, seval, -BitVec.isValue, -BitVec.reduceOfNat, -List.reduceReplicate]
  refine AW_ct [] (AW_drr hn0 1000 [(0, ⟨trC x k (.sl 1 0 m 3) n, false⟩), (2, ⟨[.i p.1, .u32 (BitVec.ofNat 32 p.2), .ros false (nodeAt x k.seed k.pub p.1 p.2).length ((nodeAt x k.seed k.pub p.1 p.2).map .u8)], true⟩)] rfl (by simp only [go_sem, reduceIte, seval, -BitVec.isValue, -BitVec.reduceOfNat, -List.reduceReplicate]) ?_)
  simp (maxSteps := 10000000) (disch := omega) only [go_sem, trC, hAl, hAt, List.set_cons_zero, List.set_cons_succ, reduceIte, seval, -BitVec.isValue, -BitVec.reduceOfNat, -List.reduceReplicate]
  try simp
end Go.Lv
namespace Go.Lv
open Go Go.Proofs
set_option linter.unusedSimpArgs false
set_option maxRecDepth 100000
def mkE (x : Xms) (k : XKey) : Int := wmayE x [k.seed, k.prf, k.pub]
theorem mkE_zero {x : Xms} {k : XKey} (h : mkE x k = 0) : KOK x k := by
  obtain ⟨h1, h2⟩ := wmayE_zero h
  exact ⟨h1, h2 _ (by simp), h2 _ (by simp), h2 _ (by simp)⟩
theorem mayKey_fun (x : Xms) (k : XKey) (hk : k.ok) : Fun Tryz.prog Gs 80 [Enc.enc x, Enc.enc k] (.i (mkE x k)) := by
  have hbb := bb3 k.seed k.prf k.pub hk.seed hk.prf hk.pub
  have hE : wmayE x [k.seed, k.prf, k.pub] = mkE x k := rfl
  have hct := mark_ok 12 (ctXmay_ok (CtOK_nil (P := Tryz.prog) (Gl := Gs)))
  refine Fun_cc _ mo Tryz.func80 (by decide) cc80 rs80 Tryz.ntmps80 (by simp) (AW_run hct 1000 ?_)
  simp (maxSteps := 10000000) (disch := omega) only [go_sem, c80, mark, ctXmay, xmC, hbb, hE, deL_cons, deL_nil, reduceIte, seval, -BitVec.isValue, -BitVec.reduceOfNat, -List.reduceReplicate]
  try simp
def mkA (n : Nat) : Nat × (List AV → R) := (n, A2 fun (x : Xms) (k : XKey) => (k.ok, .i (mkE x k)))
theorem ctMayKey_ok {Ct : List (Nat × (List AV → R))} (h : CtOK Tryz.prog Gs Ct) : CtOK Tryz.prog Gs (mkA 80 :: Ct) := CtOK_cons (Row2 fun x k h => mayKey_fun x k h) h
theorem rmayKey_fun (x : Xms) (k : XKey) (hk : k.ok) : Fun Tryz.prog Gs 20 [Enc.enc x, Enc.enc k] (.i (mkE x k)) := by
  have hbb := bb3 k.seed k.prf k.pub hk.seed hk.prf hk.pub
  have hE : wmayE x [k.seed, k.prf, k.pub] = mkE x k := rfl
  have hct := mark_ok 12 (ctRXmay_ok (CtOK_nil (P := Tryz.prog) (Gl := Gs)))
  refine Fun_cc _ mo Tryz.func20 (by decide) cc20 rs20 Tryz.ntmps20 (by simp) (AW_run hct 1000 ?_)
  simp (maxSteps := 10000000) (disch := omega) only [go_sem, c20, mark, ctRXmay, xmC, hbb, hE, deL_cons, deL_nil, reduceIte, seval, -BitVec.isValue, -BitVec.reduceOfNat, -List.reduceReplicate]
  try simp
theorem ctRMayKey_ok {Ct : List (Nat × (List AV → R))} (h : CtOK Tryz.prog Gs Ct) : CtOK Tryz.prog Gs (mkA 20 :: Ct) := CtOK_cons (Row2 fun x k h => rmayKey_fun x k h) h
theorem xmsF_h {c : BitVec 32} {p : Nat × Nat} (h : xmsF c = some p) : 1 ≤ p.2 ∧ p.2 ≤ 20 := by
  have hh : ∀ j : Nat, 1 ≤ hx j ∧ hx j ≤ 20 := by
    intro j; unfold hx; split
    · omega
    · split <;> omega
  unfold xmsF at h
  split at h
  · cases h; exact hh _
  · split at h
    · cases h; exact hh _
    · split at h
      · split at h
        · cases h; simp only; omega
        · cases h
      · cases h
theorem xms_h {x : Xms} (h : xmsT x.code = some x) : 1 ≤ x.h ∧ x.h ≤ 20 := by
  unfold xmsT at h
  cases e : xmsF x.code with
  | none => rw [e] at h; cases h
  | some p =>
    rw [e] at h
    simp only [Option.map_some, Option.some.injEq] at h
    have := xmsF_h e
    rw [← h]; simp only; omega
end Go.Lv
