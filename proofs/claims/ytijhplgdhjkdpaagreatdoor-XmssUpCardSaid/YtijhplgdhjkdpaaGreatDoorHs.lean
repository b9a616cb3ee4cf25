/- A part of the proof. -/
import Derived.Test.YtijhplgdhjkdpaaGreatDoorHp
import Derived.Test.YtijhplgdhjkdpaaGreatDoorHq
import Derived.Test.YtijhplgdhjkdpaaGreatDoorGK
set_option linter.all false
namespace Go.Lv
open Go Go.Proofs
set_option linter.unusedSimpArgs false
set_option maxRecDepth 100000

/-! ## A leaf more, with a path -/
theorem dom5 {nx : Nat} (h : Nat.blt 5 nx = true) : ∀ i ∈ [0, 1, 2, 3, 4, 5], i < nx ∧ lkd i [] i = i := by
  have : 5 < nx := by simpa using h
  intro i hi
  simp only [List.mem_cons, List.not_mem_nil, or_false] at hi
  rcases hi with rfl | rfl | rfl | rfl | rfl | rfl <;> exact ⟨by omega, rfl⟩
def tw : AV := .fn (.func 85) [] [.ptr 2 0, .ptr 3 0, .ptr 4 0]
def twH (x : Xms) (k : XKey) (i n c : Nat) : List (Nat × Seg) := [(2, ⟨xmC x, false⟩), (3, ⟨[.u32 (BitVec.ofNat 32 i)], false⟩), (4, ⟨[.sl 5 0 (x.h.toNat * x.n.toNat) 1], false⟩), (5, ⟨(pathC x k.seed k.pub i n c).map .u8, false⟩)]
def σgw (x : Xms) (k : XKey) (i n c : Nat) : St :=
  ⟨[(0, .ptr 0 0), (1, tw), (4, .ptr 6 0)], [(0, ⟨trC x k (.sl 1 0 (stk n c).length 3) ((n + 1 : Nat) : Int), false⟩), (1, ⟨stC x k (stk n c), false⟩), (6, ⟨hC x k (c, n / 2 ^ c), true⟩), (2, ⟨xmC x, false⟩), (3, ⟨[.u32 (BitVec.ofNat 32 i)], false⟩), (4, ⟨[.sl 5 0 (x.h.toNat * x.n.toNat) 1], false⟩), (5, ⟨(pathC x k.seed k.pub i n (c + 1)).map .u8, false⟩)], 7⟩
set_option maxHeartbeats 8000000 in
theorem growsW_funG (x : Xms) (k : XKey) (i n : Nat) (hK : KOK x k) (hi : i < 16) (hn : n < 16) (hh : x.h.toNat ≤ 4) :
    FunG Tryz.prog Gs 65 [.ptr 0 0, tw] ((0, ⟨trC x k (.sl 1 0 (stk n 0).length 3) n, false⟩) :: (1, ⟨stC x k (stk n 0), false⟩) :: twH x k i n 0) (.tup []) ((0, ⟨trC x k (.sl 7 0 (stk (n + 1) 0).length 3) ((n + 1 : Nat) : Int), false⟩) :: (7, ⟨stC x k (stk (n + 1) 0), false⟩) :: twH x k i (n + 1) 0) := by
  have hlf : leafS x k.seed k.pub (BitVec.ofNat 32 n) = nodeAt x k.seed k.pub 0 n := rfl
  have hnl := fun a b => nodeAt_len hK.ok k.seed k.pub a b
  have hx32 := hK.n
  have hct := ctLeaf_ok (CtOK_nil (P := Tryz.prog) (Gl := Gs))
  have ht0 := toldW_funG x k i n 0 hK hi hn (by omega) hh (by simp; omega)
  rw [show n / 2 ^ 0 = n by simp] at ht0
  refine FunG_cc [ctLeaf] [0, 1, 2, 3, 4, 5] 6 mo Tryz.func65 (by decide) cc65 rs65 Tryz.ntmps65 (by simp) rfl (by decide) rfl ?_
  have hoi := oi32 n
  have h1 : (n : Int) + 1 = ((n + 1 : Nat) : Int) := by omega
  refine AW_run hct 1000 ?_
  simp (maxSteps := 10000000) (disch := omega) only [go_sem, c65, ctLeaf, tw, twH, xmC, trC, hC, hK, hoi, hlf, h1, List.set_cons_zero, List.set_cons_succ, reduceIte, seval, -BitVec.isValue, -BitVec.reduceOfNat, -List.reduceReplicate]
  refine AW_callGd [(0, 2), (1, 3), (2, 4), (3, 5)] [] 7 [] false [] [.ptr 2 0, .ptr 3 0, .ptr 4 0] (by simp only [go_sem, reduceIte, seval, -BitVec.isValue, -BitVec.reduceOfNat, -List.reduceReplicate]) (by simp only [go_sem, reduceIte, seval, -BitVec.isValue, -BitVec.reduceOfNat, -List.reduceReplicate]) ht0 (by rfl) (.inr rfl) (by simp only [go_sem, reduceIte, seval, -BitVec.isValue, -BitVec.reduceOfNat, -List.reduceReplicate]) (by rfl) (by simp only [go_sem, hC, reduceIte, seval, -BitVec.isValue, -BitVec.reduceOfNat, -List.reduceReplicate]; try simp) (by simp only [go_sem, xmC, reduceIte, seval, -BitVec.isValue, -BitVec.reduceOfNat, -List.reduceReplicate]; try simp) (by simp only [go_sem, reduceIte, seval, -BitVec.isValue, -BitVec.reduceOfNat, -List.reduceReplicate]) (by simp only [go_sem, xmC, reduceIte, seval, -BitVec.isValue, -BitVec.reduceOfNat, -List.reduceReplicate]) ?_
  refine AW_ct [] (AW_run (CtOK_nil (P := Tryz.prog) (Gl := Gs)) 1000 ?_)
  simp (maxSteps := 10000000) (disch := omega) only [go_sem, xmC, reduceIte, seval, -BitVec.isValue, -BitVec.reduceOfNat, -List.reduceReplicate]
  refine AW_loop (σgw x k i n) (fun c => c < 5 ∧ n % 2 ^ c = 2 ^ c - 1) (fun c => 5 - c) 0 ⟨by omega, by simp; omega⟩ (Wk_d [] (dom5 rfl) ?_) fun c hc => ?_
  · simp only [go_sem, σgw, tw, xmC, trC, hC, reduceIte, seval, -BitVec.isValue, -BitVec.reduceOfNat, -List.reduceReplicate]
    simp
  · obtain ⟨hc5, hones⟩ := hc
    have hq : n / 2 ^ c < 16 := Nat.lt_of_le_of_lt (Nat.div_le_self _ _) hn
    by_cases hb : n / 2 ^ c % 2 = 1
    · obtain ⟨o1, o2, o3, o4, o5⟩ := ones_succ n hn c hc5 ⟨hones, hb⟩
      have ht := stk_top c hc5 n (by omega) hb
      have hlen := stk_lenc (c + 1) (by omega) n (by omega)
      have hAl := stC_len x k (stk n (c + 1))
      have hst : stC x k (stk n c) = stC x k (stk n (c + 1)) ++ hC x k (c, n / 2 ^ c - 1) := by rw [ht, stC_app]
      have hsl : (stk n c).length = (stk n (c + 1)).length + 1 := by rw [ht]; simp
      obtain ⟨m, hm⟩ : ∃ m, m = (stk n (c + 1)).length := ⟨_, rfl⟩
      rw [← hm] at hsl hAl hlen
      have hC3 : hC x k (c, n / 2 ^ c - 1) = [.i c, .u32 (BitVec.ofNat 32 (n / 2 ^ c - 1)), .ros false (nodeAt x k.seed k.pub c (n / 2 ^ c - 1)).length ((nodeAt x k.seed k.pub c (n / 2 ^ c - 1)).map .u8)] := rfl
      have hd : (stC x k (stk n c)).drop (m * 3) = hC x k (c, n / 2 ^ c - 1) := by rw [hst]; exact List.drop_left' (by omega)
      rw [hC3] at hd
      have hg : (stC x k (stk n c)).getD (m * 3) .junk = .i (c : Int) := by rw [hst, getD_app2 _ _ _ _ (by omega), show m * 3 - (stC x k (stk n (c + 1))).length = 0 by omega]; rfl
      have hl : (stC x k (stk n c)).length = m * 3 + 3 := by rw [hst, List.length_append, hAl, Nat.mul_comm]; rfl
      have htk : (stC x k (stk n c)).take (m * 3) = stC x k (stk n (c + 1)) := by rw [hst]; exact List.take_left' (by omega)
      have htake := xtake_funG x k (stC x k (stk n (c + 1))) (c, n / 2 ^ c - 1) m ((n + 1 : Nat) : Int) hAl (by omega)
      rw [← hst] at htake
      have e1 : ((m + 1 : Nat) : Int) - 1 = (m : Int) := by omega
      have hdv := div32 (n / 2 ^ c) (by omega)
      have hoc := oi32 c
      have hnode : nodeS x k.pub (adT c (n / 2 ^ c / 2)) (nodeAt x k.seed k.pub c (n / 2 ^ c - 1)) (nodeAt x k.seed k.pub c (n / 2 ^ c)) = nodeAt x k.seed k.pub (c + 1) (n / 2 ^ (c + 1)) := by
        rw [o3, nodeAt, o5, o4]
      have hwe : ([.u32 0, .u32 0, .u32 0, .u32 2, .u32 0, .u32 (BitVec.ofNat 32 c), .u32 (BitVec.ofNat 32 (n / 2 ^ c / 2)), .u32 0] : List AV) = (adT c (n / 2 ^ c / 2)).map .u32 := rfl
      have hwl : (adT c (n / 2 ^ c / 2)).length = 8 := rfl
      have h1c : (c : Int) + 1 = ((c + 1 : Nat) : Int) := by omega
      have hn0 := CtOK_nil (P := Tryz.prog) (Gl := Gs)
      refine AW_ct [] (AW_run hn0 1000 ?_)
      simp (maxSteps := 10000000) (disch := omega) only [go_sem, σgw, tw, xmC, trC, hC, hsl, e1, hg, hd, hl, reduceIte, seval, -BitVec.isValue, -BitVec.reduceOfNat, -List.reduceReplicate]
      refine AW_callGd [(0, 0), (1, 1)] [] 7 [] false [] [] (by simp only [go_sem, reduceIte, seval, -BitVec.isValue, -BitVec.reduceOfNat, -List.reduceReplicate]) (by simp only [go_sem, reduceIte, seval, -BitVec.isValue, -BitVec.reduceOfNat, -List.reduceReplicate]) htake (by rfl) (.inr rfl) (by simp only [go_sem, reduceIte, seval, -BitVec.isValue, -BitVec.reduceOfNat, -List.reduceReplicate]) (by rfl) (by simp only [go_sem, reduceIte, seval, -BitVec.isValue, -BitVec.reduceOfNat, -List.reduceReplicate]; try simp) (by simp only [go_sem, trC, reduceIte, seval, -BitVec.isValue, -BitVec.reduceOfNat, -List.reduceReplicate]; try simp) (by simp only [go_sem, hC, reduceIte, seval, -BitVec.isValue, -BitVec.reduceOfNat, -List.reduceReplicate]) (by simp only [go_sem, trC, reduceIte, seval, -BitVec.isValue, -BitVec.reduceOfNat, -List.reduceReplicate]) ?_
      have hct2 := ctNode_ok hn0
      have ht1 := toldW_funG x k i n (c + 1) hK hi hn (by omega) hh o1
      refine AW_ct [ctNode] (AW_run hct2 1000 ?_)
      have hdv' : BitVec.ofNat 32 (n / 2 ^ c) / (2 : BitVec 32) = BitVec.ofNat 32 (n / 2 ^ c / 2) := hdv
      have kb := hK.b
      have p1 := hnl c (n / 2 ^ c - 1)
      have p2 := hnl c (n / 2 ^ c)
      have p3 := hnl (c + 1) (n / 2 ^ (c + 1))
      rw [← o3] at hdv hdv' hwe hwl hnode
      simp (maxSteps := 10000000) (disch := omega) only [go_sem, ctNode, trC, hC, xmC, hoc, hdv, hdv', hwe, hwl, hK.ok, p1, p2, p3, hnode, h1c, List.set_cons_zero, List.set_cons_succ, List.getD_cons_zero, List.getD_cons_succ, reduceIte, seval, -BitVec.isValue, -BitVec.reduceOfNat, -List.reduceReplicate]
      refine AW_callGd [(0, 2), (1, 3), (2, 4), (3, 5)] [] 8 [] false [] [.ptr 2 0, .ptr 3 0, .ptr 4 0] (by simp only [go_sem, reduceIte, seval, -BitVec.isValue, -BitVec.reduceOfNat, -List.reduceReplicate]) (by simp only [go_sem, reduceIte, seval, -BitVec.isValue, -BitVec.reduceOfNat, -List.reduceReplicate]) ht1 (by rfl) (.inr rfl) (by simp only [go_sem, reduceIte, seval, -BitVec.isValue, -BitVec.reduceOfNat, -List.reduceReplicate]) (by rfl) (by simp only [go_sem, hC, p3, reduceIte, seval, -BitVec.isValue, -BitVec.reduceOfNat, -List.reduceReplicate]; try simp) (by simp only [go_sem, xmC, reduceIte, seval, -BitVec.isValue, -BitVec.reduceOfNat, -List.reduceReplicate]; try simp) (by simp only [go_sem, reduceIte, seval, -BitVec.isValue, -BitVec.reduceOfNat, -List.reduceReplicate]) (by simp only [go_sem, xmC, reduceIte, seval, -BitVec.isValue, -BitVec.reduceOfNat, -List.reduceReplicate]) ?_
      refine AW_ct [] (AW_run hn0 1000 ?_)
      simp (maxSteps := 10000000) (disch := omega) only [go_sem, xmC, reduceIte, seval, -BitVec.isValue, -BitVec.reduceOfNat, -List.reduceReplicate]
      refine ⟨c + 1, ⟨by omega, o1⟩, Wk_uf 6 [] (Wk_tr 1 (m * 3) (Wk_d [] (dom5 rfl) ?_)), by omega⟩
      simp only [go_sem, σgw, tw, xmC, trC, hC, ufF, ufH, mapH, htk, ← hm, p3, reduceIte, seval, -BitVec.isValue, -BitVec.reduceOfNat, -List.reduceReplicate]
      try simp
    · have hb0 : n / 2 ^ c % 2 = 0 := by omega
      have hput := xput_funG x k (stC x k (stk n c)) (c, n / 2 ^ c) (stk n c).length ((n + 1 : Nat) : Int) (stC_len x k _) (by have := stk_lenc c (by omega) n (by omega); omega)
      have hsp := stk_put c hc5 n hn ⟨hones, hb0⟩
      have hfin : stC x k (stk n c) ++ hC x k (c, n / 2 ^ c) = stC x k (stk (n + 1) 0) := by rw [← hsp, stC_app]
      have hfl : (stk n c).length + 1 = (stk (n + 1) 0).length := by rw [← hsp]; simp
      rw [hfin, hfl] at hput
      have hn0 := CtOK_nil (P := Tryz.prog) (Gl := Gs)
      have hsl := stk_lenc c (by omega) n (by omega)
      have hpn := path_next (x := x) k.seed k.pub hi hn (by omega) hh hones hb0
      rcases stk_non c hc5 n (by omega) hb0 with hnil | ⟨p, L, hL, hp⟩
      · have hl0 : (stk n c).length = 0 := by rw [hnil]; rfl
        rw [hl0] at hput
        refine AW_ct [] (AW_run hn0 1000 ?_)
        simp (maxSteps := 10000000) (disch := omega) only [go_sem, σgw, tw, xmC, hpn, trC, hC, hl0, reduceIte, seval, -BitVec.isValue, -BitVec.reduceOfNat, -List.reduceReplicate]
        refine AW_callGd [(0, 0), (1, 1)] [(4, 7)] 8 [] false [] [] (by simp only [go_sem, reduceIte, seval, -BitVec.isValue, -BitVec.reduceOfNat, -List.reduceReplicate]) (by simp only [go_sem, reduceIte, seval, -BitVec.isValue, -BitVec.reduceOfNat, -List.reduceReplicate]) hput (by rfl) (.inr rfl) (by simp only [go_sem, reduceIte, seval, -BitVec.isValue, -BitVec.reduceOfNat, -List.reduceReplicate]) (by rfl) (by simp only [go_sem, hC, reduceIte, seval, -BitVec.isValue, -BitVec.reduceOfNat, -List.reduceReplicate]; try simp) (by simp only [go_sem, trC, reduceIte, seval, -BitVec.isValue, -BitVec.reduceOfNat, -List.reduceReplicate]; try simp) (by simp only [go_sem, reduceIte, seval, -BitVec.isValue, -BitVec.reduceOfNat, -List.reduceReplicate]) (by simp only [go_sem, trC, reduceIte, seval, -BitVec.isValue, -BitVec.reduceOfNat, -List.reduceReplicate]) ?_
        refine AW_ct [] (AW_run hn0 1000 ?_)
        simp (maxSteps := 10000000) (disch := omega) only [go_sem, trC, twH, xmC, reduceIte, seval, -BitVec.isValue, -BitVec.reduceOfNat, -List.reduceReplicate]
        try simp
      · have hl0 : (stk n c).length = L.length + 1 := by rw [hL]; simp
        have hAl := stC_len x k L
        have hg : (stC x k (stk n c)).getD (L.length * 3) .junk = .i (p.1 : Int) := by rw [hL, stC_app, getD_app2 _ _ _ _ (by omega), show L.length * 3 - (stC x k L).length = 0 by omega]; rfl
        have hl : (stC x k (stk n c)).length = L.length * 3 + 3 := by rw [stC_len, hl0]; omega
        have e1 : ((L.length + 1 : Nat) : Int) - 1 = (L.length : Int) := by omega
        have hpi : ¬ ((p.1 : Nat) : Int) = (c : Int) := by omega
        rw [hl0] at hput
        refine AW_ct [] (AW_run hn0 1000 ?_)
        simp (maxSteps := 10000000) (disch := omega) only [go_sem, σgw, tw, xmC, hpn, trC, hC, hl0, e1, hg, hl, eq_false hpi, reduceIte, seval, -BitVec.isValue, -BitVec.reduceOfNat, -List.reduceReplicate]
        refine AW_callGd [(0, 0), (1, 1)] [(4, 7)] 8 [] false [] [] (by simp only [go_sem, reduceIte, seval, -BitVec.isValue, -BitVec.reduceOfNat, -List.reduceReplicate]) (by simp only [go_sem, reduceIte, seval, -BitVec.isValue, -BitVec.reduceOfNat, -List.reduceReplicate]) hput (by rfl) (.inr rfl) (by simp only [go_sem, reduceIte, seval, -BitVec.isValue, -BitVec.reduceOfNat, -List.reduceReplicate]) (by rfl) (by simp only [go_sem, hC, reduceIte, seval, -BitVec.isValue, -BitVec.reduceOfNat, -List.reduceReplicate]; try simp) (by simp only [go_sem, trC, reduceIte, seval, -BitVec.isValue, -BitVec.reduceOfNat, -List.reduceReplicate]; try simp) (by simp only [go_sem, reduceIte, seval, -BitVec.isValue, -BitVec.reduceOfNat, -List.reduceReplicate]) (by simp only [go_sem, trC, reduceIte, seval, -BitVec.isValue, -BitVec.reduceOfNat, -List.reduceReplicate]) ?_
        refine AW_ct [] (AW_run hn0 1000 ?_)
        simp (maxSteps := 10000000) (disch := omega) only [go_sem, trC, twH, xmC, reduceIte, seval, -BitVec.isValue, -BitVec.reduceOfNat, -List.reduceReplicate]
        try simp
end Go.Lv
