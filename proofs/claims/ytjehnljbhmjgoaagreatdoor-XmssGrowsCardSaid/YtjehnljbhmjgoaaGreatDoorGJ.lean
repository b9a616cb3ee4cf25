/- A part of the proof (GJ). -/
import Derived.Test.YtjehnljbhmjgoaaGreatDoorGI
import Derived.Test.YtjehnljbhmjgoaaGreatDoorGK
set_option linter.all false
namespace Go.Lv
open Go Go.Proofs
set_option linter.unusedSimpArgs false
set_option maxRecDepth 100000
theorem add1_fun (x : Xms) (k : XKey) (p : Nat × Nat) : Fun Tryz.prog Gs 85 [.agg (hC x k p)] (.tup []) := by
  refine Fun_cc [] mo Tryz.func85 (by decide) cc85 rs85 Tryz.ntmps85 (by simp) ?_
  refine AW_run CtOK_nil 1000 ?_
  simp (maxSteps := 10000000) (disch := omega) only [go_sem, c85, hC, reduceIte, seval, -BitVec.isValue, -BitVec.reduceOfNat, -List.reduceReplicate]
def ctAdd1 (x : Xms) (k : XKey) (p : Nat × Nat) : Nat × (List AV → R) := (85, fun a => (a = [.agg (hC x k p)], .tup []))
theorem ctAdd1_ok {x : Xms} {k : XKey} {p : Nat × Nat} {Ct : List (Nat × (List AV → R))} (h : CtOK Tryz.prog Gs Ct) : CtOK Tryz.prog Gs (ctAdd1 x k p :: Ct) := CtOK_cons (fun a e => by
  have e : a = [.agg (hC x k p)] := e
  subst e; exact add1_fun x k p) h
theorem div32 (m : Nat) (h : m < 1000) : BitVec.ofNat 32 m / 2#32 = BitVec.ofNat 32 (m / 2) := by
  apply BitVec.eq_of_toNat_eq
  have e1 : (BitVec.ofNat 32 m).toNat = m := by rw [BitVec.toNat_ofNat]; omega
  have e2 : (BitVec.ofNat 32 (m / 2)).toNat = m / 2 := by rw [BitVec.toNat_ofNat]; omega
  have e3 : (2#32).toNat = 2 := rfl
  rw [BitVec.toNat_udiv, e1, e2, e3]
theorem oi32 (m : Nat) : BitVec.ofInt 32 (m : Int) = BitVec.ofNat 32 m := BitVec.ofInt_natCast 32 m
theorem hC_l (x : Xms) (k : XKey) (p : Nat × Nat) : own.ownL (hC x k p) = false ∧ (∀ m, ren.renL m (hC x k p) = hC x k p) ∧ (∀ n, idk.idkL n (hC x k p) = True) ∧ (∀ H j, (hC x k p).map (frz H (j + 2) false) = hC x k p) ∧ (∀ M, okx.okxL false M (hC x k p) = True) := by
  refine ⟨?_, ?_, ?_, ?_, ?_⟩
  · simp [hC, own, own.ownL, (Enc.ow (nodeAt x k.seed k.pub p.1 p.2)).1]
  · intro m; simp [hC, ren, ren.renL, (Enc.rn m (nodeAt x k.seed k.pub p.1 p.2)).1]
  · intro n; simp [hC, idk, idk.idkL, (Enc.ik n (nodeAt x k.seed k.pub p.1 p.2)).1]
  · intro H j; simp only [hC, List.map_cons, List.map_nil, frz, enc_By, z_8, Bool.false_and]
  · intro M; simp [hC, okx, okx.okxL, enc_By, okxL_8]
theorem stC_l (x : Xms) (k : XKey) : ∀ L : List (Nat × Nat), own.ownL (stC x k L) = false ∧ (∀ m, ren.renL m (stC x k L) = stC x k L) ∧ (∀ n, idk.idkL n (stC x k L) = True) ∧ (∀ H j, (stC x k L).map (frz H (j + 2) false) = stC x k L) ∧ (∀ M, okx.okxL false M (stC x k L) = True)
  | [] => ⟨rfl, fun _ => rfl, fun _ => rfl, fun _ _ => rfl, fun _ => rfl⟩
  | p :: L => by
    obtain ⟨a1, a2, a3, a4, a5⟩ := hC_l x k p
    obtain ⟨b1, b2, b3, b4, b5⟩ := stC_l x k L
    have e : stC x k (p :: L) = hC x k p ++ stC x k L := rfl
    have f1 : ∀ (A B : List AV), own.ownL A = false → own.ownL B = false → own.ownL (A ++ B) = false := by
      intro A B h1 h2
      rw [ownL_iff] at h1 h2 ⊢
      intro z hz
      rcases List.mem_append.1 hz with h | h
      · exact h1 z h
      · exact h2 z h
    have f2 : ∀ (m : List (Nat × Nat)) (A B : List AV), ren.renL m (A ++ B) = ren.renL m A ++ ren.renL m B := by
      intro m A B; induction A with
      | nil => rfl
      | cons z A ih => simp only [List.cons_append, ren.renL, ih]
    have f3 : ∀ (n : Nat) (A B : List AV), idk.idkL n A → idk.idkL n B → idk.idkL n (A ++ B) := by
      intro n A B h1 h2; induction A with
      | nil => exact h2
      | cons z A ih => simp only [List.cons_append, idk.idkL] at h1 ⊢; exact ⟨h1.1, ih h1.2⟩
    rw [e]
    refine ⟨f1 _ _ a1 b1, fun m => by rw [f2, a2, b2], fun n => eq_true (f3 n _ _ (of_eq_true (a3 n)) (of_eq_true (b3 n))), fun H j => by rw [List.map_append, a4, b4], fun M => ?_⟩
    rw [okxL_app, a5, b5]; simp
@[go_sem] theorem stC_o (x : Xms) (k : XKey) (L : List (Nat × Nat)) : own.ownL (stC x k L) = false := (stC_l x k L).1
@[go_sem] theorem stC_r (x : Xms) (k : XKey) (L : List (Nat × Nat)) (m : List (Nat × Nat)) : ren.renL m (stC x k L) = stC x k L := (stC_l x k L).2.1 m
@[go_sem] theorem stC_i (x : Xms) (k : XKey) (L : List (Nat × Nat)) (n : Nat) : idk.idkL n (stC x k L) = True := (stC_l x k L).2.2.1 n
@[go_sem] theorem stC_f (x : Xms) (k : XKey) (L : List (Nat × Nat)) (H : List (Nat × Seg)) (j : Nat) : (stC x k L).map (frz H (j + 2) false) = stC x k L := (stC_l x k L).2.2.2.1 H j
@[go_sem] theorem stC_x (x : Xms) (k : XKey) (L : List (Nat × Nat)) (M : List (Nat × Nat)) : okx.okxL false M (stC x k L) = True := (stC_l x k L).2.2.2.2 M
theorem dom2 {nx : Nat} (h : Nat.blt 1 nx = true) : ∀ i ∈ [0, 1], i < nx ∧ lkd i [] i = i := dom01 h
def σgr (x : Xms) (k : XKey) (told : AV) (n c : Nat) : St :=
  ⟨[(0, .ptr 0 0), (1, told), (4, .ptr 2 0)], [(0, ⟨trC x k (.sl 1 0 (stk n c).length 3) ((n + 1 : Nat) : Int), false⟩), (1, ⟨stC x k (stk n c), false⟩), (2, ⟨hC x k (c, n / 2 ^ c), true⟩)], 3⟩
set_option maxHeartbeats 8000000 in
theorem growsA_funG (x : Xms) (k : XKey) (n : Nat) (hK : KOK x k) (hn : n < 16) :
    FunG Tryz.prog Gs 84 [.ptr 0 0, .fn (.func 85) [] []] [(0, ⟨trC x k (.sl 1 0 (stk n 0).length 3) n, false⟩), (1, ⟨stC x k (stk n 0), false⟩)] (.tup []) [(0, ⟨trC x k (.sl 3 0 (stk (n + 1) 0).length 3) ((n + 1 : Nat) : Int), false⟩), (3, ⟨stC x k (stk (n + 1) 0), false⟩)] := by
  have hlf : leafS x k.seed k.pub (BitVec.ofNat 32 n) = nodeAt x k.seed k.pub 0 n := rfl
  have hnl := fun a b => nodeAt_len hK.ok k.seed k.pub a b
  have hx32 := hK.n
  have hct := ctLeaf_ok (ctAdd1_ok (x := x) (k := k) (p := (0, n)) (CtOK_nil (P := Tryz.prog) (Gl := Gs)))
  refine FunG_cc [ctLeaf, ctAdd1 x k (0, n)] [0, 1] 2 mo Tryz.func84 (by decide) cc84 rs84 Tryz.ntmps84 (by simp) rfl (by decide) rfl ?_
  have hoi := oi32 n
  have h1 : (n : Int) + 1 = ((n + 1 : Nat) : Int) := by omega
  refine AW_run hct 1000 ?_
  simp (maxSteps := 10000000) (disch := omega) only [go_sem, c84, ctLeaf, ctAdd1, trC, hC, hK, hoi, hlf, h1, List.set_cons_zero, List.set_cons_succ, reduceIte, seval, -BitVec.isValue, -BitVec.reduceOfNat, -List.reduceReplicate]
  refine AW_loop (σgr x k (.fn (.func 85) [] []) n) (fun c => c < 5 ∧ n % 2 ^ c = 2 ^ c - 1) (fun c => 5 - c) 0 ⟨by omega, by simp; omega⟩ (Wk_d [] (dom2 rfl) ?_) fun c hc => ?_
  · simp only [go_sem, σgr, trC, hC, reduceIte, seval, -BitVec.isValue, -BitVec.reduceOfNat, -List.reduceReplicate]
    simp
  · obtain ⟨hc5, hones⟩ := hc
    have hq : n / 2 ^ c < 16 := Nat.lt_of_le_of_lt (Nat.div_le_self _ _) hn
    by_cases hb : n / 2 ^ c % 2 = 1
    · obtain ⟨o1, o2, o3, o4, o5⟩ := ones_succ n hn c hc5 ⟨hones, hb⟩
      have ht := stk_top c hc5 n (by omega) hb
      have hlen := stk_lenc (c + 1) (by omega) n (by omega)
      have hAl := stC_len x k (stk n (c + 1))
      have hst : stC x k (stk n c) = stC x k (stk n (c + 1)) ++ hC x k (c, n / 2 ^ c - 1) := by rw [ht, stC_app]
      have hsl : (stk n c).length = (stk n (c + 1)).length + 1 := by rw [ht]; simp
      obtain ⟨m, hm⟩ : ∃ m, m = (stk n (c + 1)).length := ⟨_, rfl⟩
      rw [← hm] at hsl hAl hlen
      have hC3 : hC x k (c, n / 2 ^ c - 1) = [.i c, .u32 (BitVec.ofNat 32 (n / 2 ^ c - 1)), .ros false (nodeAt x k.seed k.pub c (n / 2 ^ c - 1)).length ((nodeAt x k.seed k.pub c (n / 2 ^ c - 1)).map .u8)] := rfl
      have hd : (stC x k (stk n c)).drop (m * 3) = hC x k (c, n / 2 ^ c - 1) := by rw [hst]; exact List.drop_left' (by omega)
      rw [hC3] at hd
      have hg : (stC x k (stk n c)).getD (m * 3) .junk = .i (c : Int) := by rw [hst, getD_app2 _ _ _ _ (by omega), show m * 3 - (stC x k (stk n (c + 1))).length = 0 by omega]; rfl
      have hl : (stC x k (stk n c)).length = m * 3 + 3 := by rw [hst, List.length_append, hAl, Nat.mul_comm]; rfl
      have htk : (stC x k (stk n c)).take (m * 3) = stC x k (stk n (c + 1)) := by rw [hst]; exact List.take_left' (by omega)
      have htake := xtake_funG x k (stC x k (stk n (c + 1))) (c, n / 2 ^ c - 1) m ((n + 1 : Nat) : Int) hAl (by omega)
      rw [← hst] at htake
      have e1 : ((m + 1 : Nat) : Int) - 1 = (m : Int) := by omega
      have hdv := div32 (n / 2 ^ c) (by omega)
      have hoc := oi32 c
      have hnode : nodeS x k.pub (adT c (n / 2 ^ c / 2)) (nodeAt x k.seed k.pub c (n / 2 ^ c - 1)) (nodeAt x k.seed k.pub c (n / 2 ^ c)) = nodeAt x k.seed k.pub (c + 1) (n / 2 ^ (c + 1)) := by
        rw [o3, nodeAt, o5, o4]
      have hwe : ([.u32 0, .u32 0, .u32 0, .u32 2, .u32 0, .u32 (BitVec.ofNat 32 c), .u32 (BitVec.ofNat 32 (n / 2 ^ c / 2)), .u32 0] : List AV) = (adT c (n / 2 ^ c / 2)).map .u32 := rfl
      have hwl : (adT c (n / 2 ^ c / 2)).length = 8 := rfl
      have h1c : (c : Int) + 1 = ((c + 1 : Nat) : Int) := by omega
      have hn0 := CtOK_nil (P := Tryz.prog) (Gl := Gs)
      refine AW_ct [] (AW_run hn0 1000 ?_)
      simp (maxSteps := 10000000) (disch := omega) only [go_sem, σgr, trC, hC, hsl, e1, hg, hd, hl, reduceIte, seval, -BitVec.isValue, -BitVec.reduceOfNat, -List.reduceReplicate]
      refine AW_callGd [(0, 0), (1, 1)] [] 3 [] false [] [] (by simp only [go_sem, reduceIte, seval, -BitVec.isValue, -BitVec.reduceOfNat, -List.reduceReplicate]) (by simp only [go_sem, reduceIte, seval, -BitVec.isValue, -BitVec.reduceOfNat, -List.reduceReplicate]) htake (by rfl) (.inr rfl) (by simp only [go_sem, reduceIte, seval, -BitVec.isValue, -BitVec.reduceOfNat, -List.reduceReplicate]) (by rfl) (by simp only [go_sem, reduceIte, seval, -BitVec.isValue, -BitVec.reduceOfNat, -List.reduceReplicate]; try simp) (by simp only [go_sem, trC, reduceIte, seval, -BitVec.isValue, -BitVec.reduceOfNat, -List.reduceReplicate]; try simp) (by simp only [go_sem, hC, reduceIte, seval, -BitVec.isValue, -BitVec.reduceOfNat, -List.reduceReplicate]) (by simp only [go_sem, trC, reduceIte, seval, -BitVec.isValue, -BitVec.reduceOfNat, -List.reduceReplicate]) ?_
      have hct2 := ctNode_ok (ctAdd1_ok (x := x) (k := k) (p := (c + 1, n / 2 ^ (c + 1))) hn0)
      refine AW_ct [ctNode, ctAdd1 x k (c + 1, n / 2 ^ (c + 1))] (AW_run hct2 1000 ?_)
      have hdv' : BitVec.ofNat 32 (n / 2 ^ c) / (2 : BitVec 32) = BitVec.ofNat 32 (n / 2 ^ c / 2) := hdv
      have kb := hK.b
      have p1 := hnl c (n / 2 ^ c - 1)
      have p2 := hnl c (n / 2 ^ c)
      have p3 := hnl (c + 1) (n / 2 ^ (c + 1))
      rw [← o3] at hdv hdv' hwe hwl hnode
      simp (maxSteps := 10000000) (disch := omega) only [go_sem, ctNode, ctAdd1, trC, hC, xmC, hoc, hdv, hdv', hwe, hwl, hK.ok, p1, p2, p3, hnode, h1c, List.set_cons_zero, List.set_cons_succ, List.getD_cons_zero, List.getD_cons_succ, reduceIte, seval, -BitVec.isValue, -BitVec.reduceOfNat, -List.reduceReplicate]
      refine ⟨c + 1, ⟨by omega, o1⟩, Wk_uf 2 [] (Wk_tr 1 (m * 3) (Wk_d [] (dom2 rfl) ?_)), by omega⟩
      simp only [go_sem, σgr, trC, hC, ufF, ufH, mapH, htk, ← hm, p3, reduceIte, seval, -BitVec.isValue, -BitVec.reduceOfNat, -List.reduceReplicate]
      try simp
    · have hb0 : n / 2 ^ c % 2 = 0 := by omega
      have hput := xput_funG x k (stC x k (stk n c)) (c, n / 2 ^ c) (stk n c).length ((n + 1 : Nat) : Int) (stC_len x k _) (by have := stk_lenc c (by omega) n (by omega); omega)
      have hsp := stk_put c hc5 n hn ⟨hones, hb0⟩
      have hfin : stC x k (stk n c) ++ hC x k (c, n / 2 ^ c) = stC x k (stk (n + 1) 0) := by rw [← hsp, stC_app]
      have hfl : (stk n c).length + 1 = (stk (n + 1) 0).length := by rw [← hsp]; simp
      rw [hfin, hfl] at hput
      have hn0 := CtOK_nil (P := Tryz.prog) (Gl := Gs)
      have hsl := stk_lenc c (by omega) n (by omega)
      rcases stk_non c hc5 n (by omega) hb0 with hnil | ⟨p, L, hL, hp⟩
      · have hl0 : (stk n c).length = 0 := by rw [hnil]; rfl
        rw [hl0] at hput
        refine AW_ct [] (AW_run hn0 1000 ?_)
        simp (maxSteps := 10000000) (disch := omega) only [go_sem, σgr, trC, hC, hl0, reduceIte, seval, -BitVec.isValue, -BitVec.reduceOfNat, -List.reduceReplicate]
        refine AW_callGd [(0, 0), (1, 1)] [(4, 3)] 4 [] false [] [] (by simp only [go_sem, reduceIte, seval, -BitVec.isValue, -BitVec.reduceOfNat, -List.reduceReplicate]) (by simp only [go_sem, reduceIte, seval, -BitVec.isValue, -BitVec.reduceOfNat, -List.reduceReplicate]) hput (by rfl) (.inr rfl) (by simp only [go_sem, reduceIte, seval, -BitVec.isValue, -BitVec.reduceOfNat, -List.reduceReplicate]) (by rfl) (by simp only [go_sem, hC, reduceIte, seval, -BitVec.isValue, -BitVec.reduceOfNat, -List.reduceReplicate]; try simp) (by simp only [go_sem, trC, reduceIte, seval, -BitVec.isValue, -BitVec.reduceOfNat, -List.reduceReplicate]; try simp) (by simp only [go_sem, reduceIte, seval, -BitVec.isValue, -BitVec.reduceOfNat, -List.reduceReplicate]) (by simp only [go_sem, trC, reduceIte, seval, -BitVec.isValue, -BitVec.reduceOfNat, -List.reduceReplicate]) ?_
        refine AW_ct [] (AW_run hn0 1000 ?_)
        simp (maxSteps := 10000000) (disch := omega) only [go_sem, trC, reduceIte, seval, -BitVec.isValue, -BitVec.reduceOfNat, -List.reduceReplicate]
        try simp
      · have hl0 : (stk n c).length = L.length + 1 := by rw [hL]; simp
        have hAl := stC_len x k L
        have hg : (stC x k (stk n c)).getD (L.length * 3) .junk = .i (p.1 : Int) := by rw [hL, stC_app, getD_app2 _ _ _ _ (by omega), show L.length * 3 - (stC x k L).length = 0 by omega]; rfl
        have hl : (stC x k (stk n c)).length = L.length * 3 + 3 := by rw [stC_len, hl0]; omega
        have e1 : ((L.length + 1 : Nat) : Int) - 1 = (L.length : Int) := by omega
        have hpi : ¬ ((p.1 : Nat) : Int) = (c : Int) := by omega
        rw [hl0] at hput
        refine AW_ct [] (AW_run hn0 1000 ?_)
        simp (maxSteps := 10000000) (disch := omega) only [go_sem, σgr, trC, hC, hl0, e1, hg, hl, eq_false hpi, reduceIte, seval, -BitVec.isValue, -BitVec.reduceOfNat, -List.reduceReplicate]
        refine AW_callGd [(0, 0), (1, 1)] [(4, 3)] 4 [] false [] [] (by simp only [go_sem, reduceIte, seval, -BitVec.isValue, -BitVec.reduceOfNat, -List.reduceReplicate]) (by simp only [go_sem, reduceIte, seval, -BitVec.isValue, -BitVec.reduceOfNat, -List.reduceReplicate]) hput (by rfl) (.inr rfl) (by simp only [go_sem, reduceIte, seval, -BitVec.isValue, -BitVec.reduceOfNat, -List.reduceReplicate]) (by rfl) (by simp only [go_sem, hC, reduceIte, seval, -BitVec.isValue, -BitVec.reduceOfNat, -List.reduceReplicate]; try simp) (by simp only [go_sem, trC, reduceIte, seval, -BitVec.isValue, -BitVec.reduceOfNat, -List.reduceReplicate]; try simp) (by simp only [go_sem, reduceIte, seval, -BitVec.isValue, -BitVec.reduceOfNat, -List.reduceReplicate]) (by simp only [go_sem, trC, reduceIte, seval, -BitVec.isValue, -BitVec.reduceOfNat, -List.reduceReplicate]) ?_
        refine AW_ct [] (AW_run hn0 1000 ?_)
        simp (maxSteps := 10000000) (disch := omega) only [go_sem, trC, reduceIte, seval, -BitVec.isValue, -BitVec.reduceOfNat, -List.reduceReplicate]
        try simp
end Go.Lv
namespace Go.Lv
open Go Go.Proofs
set_option linter.unusedSimpArgs false
set_option maxRecDepth 100000
theorem beside32 : ∀ i < 16, ∀ c < 5, (BitVec.ofNat 32 i >>> c) ^^^ 1#32 = BitVec.ofNat 32 ((i / 2 ^ c) ^^^ 1) := by decide +kernel
theorem eq32 {a b : Nat} (ha : a < 1000) (hb : b < 1000) : decide (BitVec.ofNat 32 a = BitVec.ofNat 32 b) = decide (a = b) := by
  refine decide_eq_decide.2 ⟨fun h => ?_, fun h => by rw [h]⟩
  have := congrArg BitVec.toNat h
  rw [BitVec.toNat_ofNat, BitVec.toNat_ofNat] at this
  omega
theorem sib_lt : ∀ i < 16, ∀ c < 5, (i / 2 ^ c) ^^^ 1 < 17 := by decide +kernel
set_option maxHeartbeats 4000000 in
theorem toldW_funG (x : Xms) (k : XKey) (i n c : Nat) (hK : KOK x k) (hi : i < 16) (hn : n < 16) (hc : c < 5) (hh : x.h.toNat ≤ 4) (ho : n % 2 ^ c = 2 ^ c - 1) :
    FunG Tryz.prog Gs 151 [.agg (hC x k (c, n / 2 ^ c)), .ptr 0 0, .ptr 1 0, .ptr 2 0]
      [(0, ⟨xmC x, false⟩), (1, ⟨[.u32 (BitVec.ofNat 32 i)], false⟩), (2, ⟨[.sl 3 0 (x.h.toNat * x.n.toNat) 1], false⟩), (3, ⟨(pathC x k.seed k.pub i n c).map .u8, false⟩)] (.tup [])
      [(0, ⟨xmC x, false⟩), (1, ⟨[.u32 (BitVec.ofNat 32 i)], false⟩), (2, ⟨[.sl 3 0 (x.h.toNat * x.n.toNat) 1], false⟩), (3, ⟨(pathC x k.seed k.pub i n (c + 1)).map .u8, false⟩)] := by
  refine FunG_cc [] [0, 1, 2, 3] 4 mo Tryz.func151 (by decide) cc151 rs151 Tryz.ntmps151 (by simp) rfl (by decide) rfl ?_
  have hx32 := hK.n
  have hH := xms_h hK.ok
  have hpl := pathC_len hK.ok k.seed k.pub i n c
  have hnl := nodeAt_len hK.ok k.seed k.pub c (n / 2 ^ c)
  have hq : n / 2 ^ c < 16 := Nat.lt_of_le_of_lt (Nat.div_le_self _ _) hn
  have hbs := beside32 i hi c hc
  have hbs' : (BitVec.ofNat 32 i >>> c) ^^^ (1 : BitVec 32) = BitVec.ofNat 32 ((i / 2 ^ c) ^^^ 1) := hbs
  have hsl := sib_lt i hi c hc
  have heq := eq32 (a := n / 2 ^ c) (b := (i / 2 ^ c) ^^^ 1) (by omega) (by omega)
  have hn0 := CtOK_nil (P := Tryz.prog) (Gl := Gs)
  have hxn : x.n = (x.n.toNat : Int) := by omega
  have q1 : (c : Int) * x.n = ((c * x.n.toNat : Nat) : Int) := by rw [Int.natCast_mul, ← hxn]
  have hm4 : x.h.toNat * x.n.toNat ≤ 4 * 32 := Nat.mul_le_mul (by omega) (by omega)
  by_cases hcc : c < x.h.toNat
  · have hcc' : (c : Int) < x.h := by omega
    have hcm : c * x.n.toNat + x.n.toNat ≤ x.h.toNat * x.n.toNat := by rw [← Nat.succ_mul]; exact Nat.mul_le_mul_right _ (by omega)
    by_cases he : n / 2 ^ c = (i / 2 ^ c) ^^^ 1
    · have hpt := path_told hK.ok k.seed k.pub hi hn hcc hh ho he
      rw [decide_eq_true he] at heq
      refine AW_run hn0 1000 ?_
      simp (maxSteps := 10000000) (disch := omega) only [go_sem, c151, hC, xmC, hcc', hbs, hbs', heq, reduceIte, seval, -BitVec.isValue, -BitVec.reduceOfNat, -List.reduceReplicate]
      rw [q1, hnl, Int.toNat_natCast, hpt]
    · have hps := path_same k.seed k.pub hi hn hc hh ho (fun h => he h.2)
      rw [decide_eq_false he] at heq
      refine AW_run hn0 1000 ?_
      simp (maxSteps := 10000000) (disch := omega) only [go_sem, c151, hC, xmC, hcc', hbs, hbs', heq, hps, reduceIte, seval, -BitVec.isValue, -BitVec.reduceOfNat, -List.reduceReplicate]
      try simp
  · have hcc' : ¬ (c : Int) < x.h := by omega
    have hps := path_same k.seed k.pub hi hn hc hh ho (fun h => hcc h.1)
    refine AW_run hn0 1000 ?_
    simp (maxSteps := 10000000) (disch := omega) only [go_sem, c151, hC, xmC, eq_false hcc', hps, reduceIte, seval, -BitVec.isValue, -BitVec.reduceOfNat, -List.reduceReplicate]
    try simp
end Go.Lv
namespace Go.Lv
open Go Go.Proofs
set_option linter.unusedSimpArgs false
set_option maxRecDepth 100000
theorem dom5 {nx : Nat} (h : Nat.blt 5 nx = true) : ∀ i ∈ [0, 1, 2, 3, 4, 5], i < nx ∧ lkd i [] i = i := by
  have : 5 < nx := by simpa using h
  intro i hi
  simp only [List.mem_cons, List.not_mem_nil, or_false] at hi
  rcases hi with rfl | rfl | rfl | rfl | rfl | rfl <;> exact ⟨by omega, rfl⟩
def tw : AV := .fn (.func 151) [] [.ptr 2 0, .ptr 3 0, .ptr 4 0]
def twH (x : Xms) (k : XKey) (i n c : Nat) : List (Nat × Seg) := [(2, ⟨xmC x, false⟩), (3, ⟨[.u32 (BitVec.ofNat 32 i)], false⟩), (4, ⟨[.sl 5 0 (x.h.toNat * x.n.toNat) 1], false⟩), (5, ⟨(pathC x k.seed k.pub i n c).map .u8, false⟩)]
def σgw (x : Xms) (k : XKey) (i n c : Nat) : St :=
  ⟨[(0, .ptr 0 0), (1, tw), (4, .ptr 6 0)], [(0, ⟨trC x k (.sl 1 0 (stk n c).length 3) ((n + 1 : Nat) : Int), false⟩), (1, ⟨stC x k (stk n c), false⟩), (6, ⟨hC x k (c, n / 2 ^ c), true⟩), (2, ⟨xmC x, false⟩), (3, ⟨[.u32 (BitVec.ofNat 32 i)], false⟩), (4, ⟨[.sl 5 0 (x.h.toNat * x.n.toNat) 1], false⟩), (5, ⟨(pathC x k.seed k.pub i n (c + 1)).map .u8, false⟩)], 7⟩
set_option maxHeartbeats 8000000 in
theorem growsW_funG (x : Xms) (k : XKey) (i n : Nat) (hK : KOK x k) (hi : i < 16) (hn : n < 16) (hh : x.h.toNat ≤ 4) :
    FunG Tryz.prog Gs 84 [.ptr 0 0, tw] ((0, ⟨trC x k (.sl 1 0 (stk n 0).length 3) n, false⟩) :: (1, ⟨stC x k (stk n 0), false⟩) :: twH x k i n 0) (.tup []) ((0, ⟨trC x k (.sl 7 0 (stk (n + 1) 0).length 3) ((n + 1 : Nat) : Int), false⟩) :: (7, ⟨stC x k (stk (n + 1) 0), false⟩) :: twH x k i (n + 1) 0) := by
  have hlf : leafS x k.seed k.pub (BitVec.ofNat 32 n) = nodeAt x k.seed k.pub 0 n := rfl
  have hnl := fun a b => nodeAt_len hK.ok k.seed k.pub a b
  have hx32 := hK.n
  have hct := ctLeaf_ok (CtOK_nil (P := Tryz.prog) (Gl := Gs))
  have ht0 := toldW_funG x k i n 0 hK hi hn (by omega) hh (by simp; omega)
  rw [show n / 2 ^ 0 = n by simp] at ht0
  refine FunG_cc [ctLeaf] [0, 1, 2, 3, 4, 5] 6 mo Tryz.func84 (by decide) cc84 rs84 Tryz.ntmps84 (by simp) rfl (by decide) rfl ?_
  have hoi := oi32 n
  have h1 : (n : Int) + 1 = ((n + 1 : Nat) : Int) := by omega
  refine AW_run hct 1000 ?_
  simp (maxSteps := 10000000) (disch := omega) only [go_sem, c84, ctLeaf, tw, twH, xmC, trC, hC, hK, hoi, hlf, h1, List.set_cons_zero, List.set_cons_succ, reduceIte, seval, -BitVec.isValue, -BitVec.reduceOfNat, -List.reduceReplicate]
  refine AW_callGd [(0, 2), (1, 3), (2, 4), (3, 5)] [] 7 [] false [] [.ptr 2 0, .ptr 3 0, .ptr 4 0] (by simp only [go_sem, reduceIte, seval, -BitVec.isValue, -BitVec.reduceOfNat, -List.reduceReplicate]) (by simp only [go_sem, reduceIte, seval, -BitVec.isValue, -BitVec.reduceOfNat, -List.reduceReplicate]) ht0 (by rfl) (.inr rfl) (by simp only [go_sem, reduceIte, seval, -BitVec.isValue, -BitVec.reduceOfNat, -List.reduceReplicate]) (by rfl) (by simp only [go_sem, hC, reduceIte, seval, -BitVec.isValue, -BitVec.reduceOfNat, -List.reduceReplicate]; try simp) (by simp only [go_sem, xmC, reduceIte, seval, -BitVec.isValue, -BitVec.reduceOfNat, -List.reduceReplicate]; try simp) (by simp only [go_sem, reduceIte, seval, -BitVec.isValue, -BitVec.reduceOfNat, -List.reduceReplicate]) (by simp only [go_sem, xmC, reduceIte, seval, -BitVec.isValue, -BitVec.reduceOfNat, -List.reduceReplicate]) ?_
  refine AW_ct [] (AW_run (CtOK_nil (P := Tryz.prog) (Gl := Gs)) 1000 ?_)
  simp (maxSteps := 10000000) (disch := omega) only [go_sem, xmC, reduceIte, seval, -BitVec.isValue, -BitVec.reduceOfNat, -List.reduceReplicate]
  refine AW_loop (σgw x k i n) (fun c => c < 5 ∧ n % 2 ^ c = 2 ^ c - 1) (fun c => 5 - c) 0 ⟨by omega, by simp; omega⟩ (Wk_d [] (dom5 rfl) ?_) fun c hc => ?_
  · simp only [go_sem, σgw, tw, xmC, trC, hC, reduceIte, seval, -BitVec.isValue, -BitVec.reduceOfNat, -List.reduceReplicate]
    simp
  · obtain ⟨hc5, hones⟩ := hc
    have hq : n / 2 ^ c < 16 := Nat.lt_of_le_of_lt (Nat.div_le_self _ _) hn
    by_cases hb : n / 2 ^ c % 2 = 1
    · obtain ⟨o1, o2, o3, o4, o5⟩ := ones_succ n hn c hc5 ⟨hones, hb⟩
      have ht := stk_top c hc5 n (by omega) hb
      have hlen := stk_lenc (c + 1) (by omega) n (by omega)
      have hAl := stC_len x k (stk n (c + 1))
      have hst : stC x k (stk n c) = stC x k (stk n (c + 1)) ++ hC x k (c, n / 2 ^ c - 1) := by rw [ht, stC_app]
      have hsl : (stk n c).length = (stk n (c + 1)).length + 1 := by rw [ht]; simp
      obtain ⟨m, hm⟩ : ∃ m, m = (stk n (c + 1)).length := ⟨_, rfl⟩
      rw [← hm] at hsl hAl hlen
      have hC3 : hC x k (c, n / 2 ^ c - 1) = [.i c, .u32 (BitVec.ofNat 32 (n / 2 ^ c - 1)), .ros false (nodeAt x k.seed k.pub c (n / 2 ^ c - 1)).length ((nodeAt x k.seed k.pub c (n / 2 ^ c - 1)).map .u8)] := rfl
      have hd : (stC x k (stk n c)).drop (m * 3) = hC x k (c, n / 2 ^ c - 1) := by rw [hst]; exact List.drop_left' (by omega)
      rw [hC3] at hd
      have hg : (stC x k (stk n c)).getD (m * 3) .junk = .i (c : Int) := by rw [hst, getD_app2 _ _ _ _ (by omega), show m * 3 - (stC x k (stk n (c + 1))).length = 0 by omega]; rfl
      have hl : (stC x k (stk n c)).length = m * 3 + 3 := by rw [hst, List.length_append, hAl, Nat.mul_comm]; rfl
      have htk : (stC x k (stk n c)).take (m * 3) = stC x k (stk n (c + 1)) := by rw [hst]; exact List.take_left' (by omega)
      have htake := xtake_funG x k (stC x k (stk n (c + 1))) (c, n / 2 ^ c - 1) m ((n + 1 : Nat) : Int) hAl (by omega)
      rw [← hst] at htake
      have e1 : ((m + 1 : Nat) : Int) - 1 = (m : Int) := by omega
      have hdv := div32 (n / 2 ^ c) (by omega)
      have hoc := oi32 c
      have hnode : nodeS x k.pub (adT c (n / 2 ^ c / 2)) (nodeAt x k.seed k.pub c (n / 2 ^ c - 1)) (nodeAt x k.seed k.pub c (n / 2 ^ c)) = nodeAt x k.seed k.pub (c + 1) (n / 2 ^ (c + 1)) := by
        rw [o3, nodeAt, o5, o4]
      have hwe : ([.u32 0, .u32 0, .u32 0, .u32 2, .u32 0, .u32 (BitVec.ofNat 32 c), .u32 (BitVec.ofNat 32 (n / 2 ^ c / 2)), .u32 0] : List AV) = (adT c (n / 2 ^ c / 2)).map .u32 := rfl
      have hwl : (adT c (n / 2 ^ c / 2)).length = 8 := rfl
      have h1c : (c : Int) + 1 = ((c + 1 : Nat) : Int) := by omega
      have hn0 := CtOK_nil (P := Tryz.prog) (Gl := Gs)
      refine AW_ct [] (AW_run hn0 1000 ?_)
      simp (maxSteps := 10000000) (disch := omega) only [go_sem, σgw, tw, xmC, trC, hC, hsl, e1, hg, hd, hl, reduceIte, seval, -BitVec.isValue, -BitVec.reduceOfNat, -List.reduceReplicate]
      refine AW_callGd [(0, 0), (1, 1)] [] 7 [] false [] [] (by simp only [go_sem, reduceIte, seval, -BitVec.isValue, -BitVec.reduceOfNat, -List.reduceReplicate]) (by simp only [go_sem, reduceIte, seval, -BitVec.isValue, -BitVec.reduceOfNat, -List.reduceReplicate]) htake (by rfl) (.inr rfl) (by simp only [go_sem, reduceIte, seval, -BitVec.isValue, -BitVec.reduceOfNat, -List.reduceReplicate]) (by rfl) (by simp only [go_sem, reduceIte, seval, -BitVec.isValue, -BitVec.reduceOfNat, -List.reduceReplicate]; try simp) (by simp only [go_sem, trC, reduceIte, seval, -BitVec.isValue, -BitVec.reduceOfNat, -List.reduceReplicate]; try simp) (by simp only [go_sem, hC, reduceIte, seval, -BitVec.isValue, -BitVec.reduceOfNat, -List.reduceReplicate]) (by simp only [go_sem, trC, reduceIte, seval, -BitVec.isValue, -BitVec.reduceOfNat, -List.reduceReplicate]) ?_
      have hct2 := ctNode_ok hn0
      have ht1 := toldW_funG x k i n (c + 1) hK hi hn (by omega) hh o1
      refine AW_ct [ctNode] (AW_run hct2 1000 ?_)
      have hdv' : BitVec.ofNat 32 (n / 2 ^ c) / (2 : BitVec 32) = BitVec.ofNat 32 (n / 2 ^ c / 2) := hdv
      have kb := hK.b
      have p1 := hnl c (n / 2 ^ c - 1)
      have p2 := hnl c (n / 2 ^ c)
      have p3 := hnl (c + 1) (n / 2 ^ (c + 1))
      rw [← o3] at hdv hdv' hwe hwl hnode
      simp (maxSteps := 10000000) (disch := omega) only [go_sem, ctNode, trC, hC, xmC, hoc, hdv, hdv', hwe, hwl, hK.ok, p1, p2, p3, hnode, h1c, List.set_cons_zero, List.set_cons_succ, List.getD_cons_zero, List.getD_cons_succ, reduceIte, seval, -BitVec.isValue, -BitVec.reduceOfNat, -List.reduceReplicate]
      refine AW_callGd [(0, 2), (1, 3), (2, 4), (3, 5)] [] 8 [] false [] [.ptr 2 0, .ptr 3 0, .ptr 4 0] (by simp only [go_sem, reduceIte, seval, -BitVec.isValue, -BitVec.reduceOfNat, -List.reduceReplicate]) (by simp only [go_sem, reduceIte, seval, -BitVec.isValue, -BitVec.reduceOfNat, -List.reduceReplicate]) ht1 (by rfl) (.inr rfl) (by simp only [go_sem, reduceIte, seval, -BitVec.isValue, -BitVec.reduceOfNat, -List.reduceReplicate]) (by rfl) (by simp only [go_sem, hC, p3, reduceIte, seval, -BitVec.isValue, -BitVec.reduceOfNat, -List.reduceReplicate]; try simp) (by simp only [go_sem, xmC, reduceIte, seval, -BitVec.isValue, -BitVec.reduceOfNat, -List.reduceReplicate]; try simp) (by simp only [go_sem, reduceIte, seval, -BitVec.isValue, -BitVec.reduceOfNat, -List.reduceReplicate]) (by simp only [go_sem, xmC, reduceIte, seval, -BitVec.isValue, -BitVec.reduceOfNat, -List.reduceReplicate]) ?_
      refine AW_ct [] (AW_run hn0 1000 ?_)
      simp (maxSteps := 10000000) (disch := omega) only [go_sem, xmC, reduceIte, seval, -BitVec.isValue, -BitVec.reduceOfNat, -List.reduceReplicate]
      refine ⟨c + 1, ⟨by omega, o1⟩, Wk_uf 6 [] (Wk_tr 1 (m * 3) (Wk_d [] (dom5 rfl) ?_)), by omega⟩
      simp only [go_sem, σgw, tw, xmC, trC, hC, ufF, ufH, mapH, htk, ← hm, p3, reduceIte, seval, -BitVec.isValue, -BitVec.reduceOfNat, -List.reduceReplicate]
      try simp
    · have hb0 : n / 2 ^ c % 2 = 0 := by omega
      have hput := xput_funG x k (stC x k (stk n c)) (c, n / 2 ^ c) (stk n c).length ((n + 1 : Nat) : Int) (stC_len x k _) (by have := stk_lenc c (by omega) n (by omega); omega)
      have hsp := stk_put c hc5 n hn ⟨hones, hb0⟩
      have hfin : stC x k (stk n c) ++ hC x k (c, n / 2 ^ c) = stC x k (stk (n + 1) 0) := by rw [← hsp, stC_app]
      have hfl : (stk n c).length + 1 = (stk (n + 1) 0).length := by rw [← hsp]; simp
      rw [hfin, hfl] at hput
      have hn0 := CtOK_nil (P := Tryz.prog) (Gl := Gs)
      have hsl := stk_lenc c (by omega) n (by omega)
      have hpn := path_next (x := x) k.seed k.pub hi hn (by omega) hh hones hb0
      rcases stk_non c hc5 n (by omega) hb0 with hnil | ⟨p, L, hL, hp⟩
      · have hl0 : (stk n c).length = 0 := by rw [hnil]; rfl
        rw [hl0] at hput
        refine AW_ct [] (AW_run hn0 1000 ?_)
        simp (maxSteps := 10000000) (disch := omega) only [go_sem, σgw, tw, xmC, hpn, trC, hC, hl0, reduceIte, seval, -BitVec.isValue, -BitVec.reduceOfNat, -List.reduceReplicate]
        refine AW_callGd [(0, 0), (1, 1)] [(4, 7)] 8 [] false [] [] (by simp only [go_sem, reduceIte, seval, -BitVec.isValue, -BitVec.reduceOfNat, -List.reduceReplicate]) (by simp only [go_sem, reduceIte, seval, -BitVec.isValue, -BitVec.reduceOfNat, -List.reduceReplicate]) hput (by rfl) (.inr rfl) (by simp only [go_sem, reduceIte, seval, -BitVec.isValue, -BitVec.reduceOfNat, -List.reduceReplicate]) (by rfl) (by simp only [go_sem, hC, reduceIte, seval, -BitVec.isValue, -BitVec.reduceOfNat, -List.reduceReplicate]; try simp) (by simp only [go_sem, trC, reduceIte, seval, -BitVec.isValue, -BitVec.reduceOfNat, -List.reduceReplicate]; try simp) (by simp only [go_sem, reduceIte, seval, -BitVec.isValue, -BitVec.reduceOfNat, -List.reduceReplicate]) (by simp only [go_sem, trC, reduceIte, seval, -BitVec.isValue, -BitVec.reduceOfNat, -List.reduceReplicate]) ?_
        refine AW_ct [] (AW_run hn0 1000 ?_)
        simp (maxSteps := 10000000) (disch := omega) only [go_sem, trC, twH, xmC, reduceIte, seval, -BitVec.isValue, -BitVec.reduceOfNat, -List.reduceReplicate]
        try simp
      · have hl0 : (stk n c).length = L.length + 1 := by rw [hL]; simp
        have hAl := stC_len x k L
        have hg : (stC x k (stk n c)).getD (L.length * 3) .junk = .i (p.1 : Int) := by rw [hL, stC_app, getD_app2 _ _ _ _ (by omega), show L.length * 3 - (stC x k L).length = 0 by omega]; rfl
        have hl : (stC x k (stk n c)).length = L.length * 3 + 3 := by rw [stC_len, hl0]; omega
        have e1 : ((L.length + 1 : Nat) : Int) - 1 = (L.length : Int) := by omega
        have hpi : ¬ ((p.1 : Nat) : Int) = (c : Int) := by omega
        rw [hl0] at hput
        refine AW_ct [] (AW_run hn0 1000 ?_)
        simp (maxSteps := 10000000) (disch := omega) only [go_sem, σgw, tw, xmC, hpn, trC, hC, hl0, e1, hg, hl, eq_false hpi, reduceIte, seval, -BitVec.isValue, -BitVec.reduceOfNat, -List.reduceReplicate]
        refine AW_callGd [(0, 0), (1, 1)] [(4, 7)] 8 [] false [] [] (by simp only [go_sem, reduceIte, seval, -BitVec.isValue, -BitVec.reduceOfNat, -List.reduceReplicate]) (by simp only [go_sem, reduceIte, seval, -BitVec.isValue, -BitVec.reduceOfNat, -List.reduceReplicate]) hput (by rfl) (.inr rfl) (by simp only [go_sem, reduceIte, seval, -BitVec.isValue, -BitVec.reduceOfNat, -List.reduceReplicate]) (by rfl) (by simp only [go_sem, hC, reduceIte, seval, -BitVec.isValue, -BitVec.reduceOfNat, -List.reduceReplicate]; try simp) (by simp only [go_sem, trC, reduceIte, seval, -BitVec.isValue, -BitVec.reduceOfNat, -List.reduceReplicate]; try simp) (by simp only [go_sem, reduceIte, seval, -BitVec.isValue, -BitVec.reduceOfNat, -List.reduceReplicate]) (by simp only [go_sem, trC, reduceIte, seval, -BitVec.isValue, -BitVec.reduceOfNat, -List.reduceReplicate]) ?_
        refine AW_ct [] (AW_run hn0 1000 ?_)
        simp (maxSteps := 10000000) (disch := omega) only [go_sem, trC, twH, xmC, reduceIte, seval, -BitVec.isValue, -BitVec.reduceOfNat, -List.reduceReplicate]
        try simp
end Go.Lv
namespace Go.Lv
open Go Go.Proofs
set_option linter.unusedSimpArgs false
set_option maxRecDepth 100000
def σwh (x : Xms) (k : XKey) (i n : Nat) : St :=
  ⟨[(3, .ptr 0 0), (5, .ptr 2 0), (8, .ptr 3 0), (9, .ptr 5 0), (22, .i (2 ^ x.h.toNat : Nat)), (23, .i n)],
   [(0, ⟨xmC x, true⟩), (2, ⟨[.u32 (BitVec.ofNat 32 i)], true⟩), (3, ⟨trC x k (.sl 6 0 (stk n 0).length 3) n, true⟩), (4, ⟨(pathC x k.seed k.pub i n 0).map .u8, true⟩), (5, ⟨[.sl 4 0 (x.h.toNat * x.n.toNat) 1], true⟩), (6, ⟨stC x k (stk n 0), false⟩)], 7⟩
set_option maxHeartbeats 8000000 in
theorem whole_fun (x : Xms) (k : XKey) (i : Nat) (hK : KOK x k) (hh : x.h.toNat ≤ 4) (hi : i < 2 ^ x.h.toNat) :
    Fun Tryz.prog Gs 86 [Enc.enc x, Enc.enc k, Enc.enc (BitVec.ofNat 32 i)] (.tup [Enc.enc (nodeAt x k.seed k.pub x.h.toNat 0), Enc.ret (pathS x k.seed k.pub i)]) := by
  have hx32 := hK.n
  have hH := xms_h hK.ok
  have h16 : 2 ^ x.h.toNat ≤ 16 := Nat.pow_le_pow_right (n := 2) (by omega) hh
  have hi16 : i < 16 := by omega
  have hm4 : x.h.toNat * x.n.toNat ≤ 4 * 32 := Nat.mul_le_mul (by omega) (by omega)
  have hxn : x.n = (x.n.toNat : Int) := by omega
  have hxh : x.h = (x.h.toNat : Int) := by omega
  have q1 : x.h * x.n = ((x.h.toNat * x.n.toNat : Nat) : Int) := by rw [Int.natCast_mul, ← hxn, ← hxh]
  have hpz := path_zero (x := x) k.seed k.pub hi16 hh
  have hn0 := CtOK_nil (P := Tryz.prog) (Gl := Gs)
  refine Fun_cc [] mo Tryz.func86 (by decide) cc86 rs86 Tryz.ntmps86 (by simp) ?_
  have h1s : (1 : Int) * 2 ^ x.h.toNat = ((2 ^ x.h.toNat : Nat) : Int) := by simp
  have hsz : stC x k (stk 0 0) = [] := by rw [stk_zero]; rfl
  have hlz : (stk 0 0).length = 0 := by rw [stk_zero]; rfl
  obtain ⟨P, hP⟩ : ∃ P, P = 2 ^ x.h.toNat := ⟨_, rfl⟩
  have hσ : ∀ n, σwh x k i n = ⟨[(3, .ptr 0 0), (5, .ptr 2 0), (8, .ptr 3 0), (9, .ptr 5 0), (22, .i (P : Int)), (23, .i n)],
   [(0, ⟨xmC x, true⟩), (2, ⟨[.u32 (BitVec.ofNat 32 i)], true⟩), (3, ⟨trC x k (.sl 6 0 (stk n 0).length 3) n, true⟩), (4, ⟨(pathC x k.seed k.pub i n 0).map .u8, true⟩), (5, ⟨[.sl 4 0 (x.h.toNat * x.n.toNat) 1], true⟩), (6, ⟨stC x k (stk n 0), false⟩)], 7⟩ := fun n => by rw [hP]; rfl
  have hpa := path_all (x := x) k.seed k.pub hh hi
  have hsa := stk_all x.h.toNat (by omega)
  rw [← hP] at h1s h16 hi hpa hsa
  refine AW_run hn0 1000 ?_
  simp (maxSteps := 10000000) (disch := omega) only [go_sem, c86, xmC, q1, h1s, reduceIte, seval, -BitVec.isValue, -BitVec.reduceOfNat, -List.reduceReplicate]
  refine AW_nulC 3 8 3 (seg := ⟨trC x k .nils 0, true⟩) (by simp only [go_sem, trC, reduceIte, seval, -BitVec.isValue, -BitVec.reduceOfNat, -List.reduceReplicate]) (by rfl) (by simp only; omega) ?_
  refine AW_loop (σwh x k i) (fun n => n ≤ P) (fun n => P - n) 0 (Nat.zero_le _) (Wk_p [] ?_) fun n hn => ?_
  · simp only [go_sem, hσ, mapH, trC, xmC, hsz, hlz, hpz, List.set_cons_zero, List.set_cons_succ, reduceIte, seval, -BitVec.isValue, -BitVec.reduceOfNat, -List.reduceReplicate]
    try simp
  · by_cases hc : n < P
    · have hc' : (n : Int) < (P : Int) := by omega
      have hg := growsW_funG x k i n hK hi16 (by omega) hh
      refine AW_ct [] (AW_run hn0 1000 ?_)
      simp (maxSteps := 10000000) (disch := omega) only [go_sem, hσ, trC, xmC, hc', reduceIte, seval, -BitVec.isValue, -BitVec.reduceOfNat, -List.reduceReplicate]
      refine AW_callGd [(0, 3), (1, 6), (2, 0), (3, 2), (4, 5), (5, 4)] [(7, 7)] 8 [] false [] [] (by simp only [go_sem, reduceIte, seval, -BitVec.isValue, -BitVec.reduceOfNat, -List.reduceReplicate]) (by simp only [go_sem, reduceIte, seval, -BitVec.isValue, -BitVec.reduceOfNat, -List.reduceReplicate]) hg (by rfl) (.inr rfl) (by simp only [go_sem, reduceIte, seval, -BitVec.isValue, -BitVec.reduceOfNat, -List.reduceReplicate]) (by rfl) (by simp only [go_sem, tw, reduceIte, seval, -BitVec.isValue, -BitVec.reduceOfNat, -List.reduceReplicate]; try simp) (by simp only [go_sem, trC, twH, xmC, reduceIte, seval, -BitVec.isValue, -BitVec.reduceOfNat, -List.reduceReplicate]; try simp) (by simp only [go_sem, reduceIte, seval, -BitVec.isValue, -BitVec.reduceOfNat, -List.reduceReplicate]) (by simp only [go_sem, trC, twH, xmC, reduceIte, seval, -BitVec.isValue, -BitVec.reduceOfNat, -List.reduceReplicate]) ?_
      refine AW_ct [] (AW_run hn0 1000 ?_)
      simp (maxSteps := 10000000) (disch := omega) only [go_sem, trC, twH, xmC, reduceIte, seval, -BitVec.isValue, -BitVec.reduceOfNat, -List.reduceReplicate]
      refine ⟨n + 1, by omega, Wk_p [(6, 7)] ?_, by omega⟩
      simp only [go_sem, hσ, trC, xmC, reduceIte, seval, -BitVec.isValue, -BitVec.reduceOfNat, -List.reduceReplicate]
      try simp
    · have : n = P := by omega
      subst this
      have hpl := pathS_len hK.ok k.seed k.pub i
      have hst : stC x k (stk n 0) = [.i x.h.toNat, .u32 (BitVec.ofNat 32 0), Enc.enc (nodeAt x k.seed k.pub x.h.toNat 0)] := by rw [hsa]; rfl
      have hsl : (stk n 0).length = 1 := by rw [hsa]; rfl
      have hpt : (pathS x k.seed k.pub i).take (x.h.toNat * x.n.toNat) = pathS x k.seed k.pub i := List.take_of_length_le (by omega)
      refine AW_ct [] (AW_run hn0 1000 ?_)
      simp (maxSteps := 10000000) (disch := omega) only [go_sem, hσ, trC, xmC, hpa, hst, hsl, hpl, hpt, reduceIte, seval, -BitVec.isValue, -BitVec.reduceOfNat, -List.reduceReplicate]
      try simp
end Go.Lv
namespace Go.Lv
open Go Go.Proofs
set_option linter.unusedSimpArgs false
set_option maxRecDepth 100000
def rootS (x : Xms) (k : XKey) : By := nodeAt x k.seed k.pub x.h.toNat 0
theorem rootS_len {x : Xms} {k : XKey} (h : KOK x k) : (rootS x k).length = x.n.toNat := nodeAt_len h.ok _ _ _ _
def ctWhole1 (x : Xms) (k : XKey) (i : Nat) : Nat × (List AV → R) := (86, fun a => (a = [Enc.enc x, Enc.enc k, Enc.enc (BitVec.ofNat 32 i)], .tup [Enc.enc (rootS x k), Enc.ret (pathS x k.seed k.pub i)]))
theorem ctWhole1_ok {x : Xms} {k : XKey} {i : Nat} (hK : KOK x k) (hh : x.h.toNat ≤ 4) (hi : i < 2 ^ x.h.toNat) {Ct : List (Nat × (List AV → R))} (h : CtOK Tryz.prog Gs Ct) : CtOK Tryz.prog Gs (ctWhole1 x k i :: Ct) := CtOK_cons (fun a e => by
  have e : a = [Enc.enc x, Enc.enc k, Enc.enc (BitVec.ofNat 32 i)] := e
  subst e; exact whole_fun x k i hK hh hi) h
def xrtR (x : Xms) (k : XKey) : AV := if mkE x k = 0 then .tup [Enc.enc (rootS x k), .i 0] else .tup [.ros true 0 [], .i (mkE x k)]
set_option maxHeartbeats 1000000 in
theorem XRoot_fun (x : Xms) (k : XKey) (hk : k.ok) (hh : mkE x k = 0 → x.h.toNat ≤ 4) : Fun Tryz.prog Gs 26 [Enc.enc x, Enc.enc k] (xrtR x k) := by
  by_cases h : mkE x k = 0
  · have hK := mkE_zero h
    have hct := ctMayKey_ok (ctWhole1_ok (x := x) (k := k) (i := 0) hK (hh h) (Nat.pow_pos (by omega)) (CtOK_nil (P := Tryz.prog) (Gl := Gs)))
    rw [xrtR, if_pos h]
    have z0 : BitVec.ofNat 32 0 = (0 : BitVec 32) := rfl
    refine Fun_cc _ mo Tryz.func26 (by decide) cc26 rs26 Tryz.ntmps26 (by simp) (AW_run hct 1000 ?_)
    simp (maxSteps := 10000000) (disch := omega) only [go_sem, c26, mkA, ctWhole1, xmC, hk, h, z0, reduceIte, seval, -BitVec.isValue, -BitVec.reduceOfNat, -List.reduceReplicate]
    try simp
  · rw [xrtR, if_neg h]
    obtain ⟨e, he⟩ : ∃ e, e = mkE x k := ⟨_, rfl⟩
    rw [← he] at h ⊢
    have hct := ctMayKey_ok (CtOK_nil (P := Tryz.prog) (Gl := Gs))
    refine Fun_cc _ mo Tryz.func26 (by decide) cc26 rs26 Tryz.ntmps26 (by simp) (AW_run hct 1000 ?_)
    simp (maxSteps := 10000000) (disch := omega) only [go_sem, c26, mkA, xmC, hk, ← he, eq_false h, reduceIte, seval, -BitVec.isValue, -BitVec.reduceOfNat, -List.reduceReplicate]
    try simp
def ctXRoot : Nat × (List AV → R) := (26, A2 fun (x : Xms) (k : XKey) => (k.ok ∧ (mkE x k = 0 → x.h.toNat ≤ 4), xrtR x k))
theorem ctXRoot_ok {Ct : List (Nat × (List AV → R))} (h : CtOK Tryz.prog Gs Ct) : CtOK Tryz.prog Gs (ctXRoot :: Ct) := CtOK_cons (Row2 fun x k h => XRoot_fun x k h.1 h.2) h
def highB (x : Xms) : Bool := decide (xmsT x.code = some x) && decide (4 < x.h)
theorem high_fun (x : Xms) : Fun Tryz.prog Gs 18 [Enc.enc x] (.b (highB x)) := by
  have hct := ctRMayXmss_ok (CtOK_nil (P := Tryz.prog) (Gl := Gs))
  refine Fun_cc _ mo Tryz.func18 (by decide) cc18 rs18 Tryz.ntmps18 (by simp) (AW_run hct 1000 ?_)
  by_cases h : xmsT x.code = some x
  · rw [highB, decide_eq_true h]
    simp (maxSteps := 10000000) (disch := omega) only [go_sem, c18, ctRMayXmss, xmC, h, decide_true, reduceIte, seval, -BitVec.isValue, -BitVec.reduceOfNat, -List.reduceReplicate]
    try simp
  · rw [highB, decide_eq_false h]
    simp (maxSteps := 10000000) (disch := omega) only [go_sem, c18, ctRMayXmss, xmC, h, decide_false, reduceIte, seval, -BitVec.isValue, -BitVec.reduceOfNat, -List.reduceReplicate]
    try simp
def ctHigh : Nat × (List AV → R) := (18, A1 fun x : Xms => (True, .b (highB x)))
theorem ctHigh_ok {Ct : List (Nat × (List AV → R))} (h : CtOK Tryz.prog Gs Ct) : CtOK Tryz.prog Gs (ctHigh :: Ct) := CtOK_cons (Row1 fun x _ => high_fun x) h
theorem low_of {x : Xms} {k : XKey} (h : highB x = false) : mkE x k = 0 → x.h.toNat ≤ 4 := by
  intro e
  have hK := mkE_zero e
  rw [highB, decide_eq_true hK.ok, Bool.true_and, decide_eq_false_iff_not] at h
  omega
end Go.Lv
