/- A part of the proof. -/
import Derived.Test.YtijhplgdhjkdpaaGreatDoorGI
import Derived.Test.YtijhplgdhjkdpaaGreatDoorGK
set_option linter.all false
namespace Go.Lv
open Go Go.Proofs
set_option linter.unusedSimpArgs false
set_option maxRecDepth 100000

/-! ## A leaf more -/
theorem add1_fun (x : Xms) (k : XKey) (p : Nat × Nat) : Fun Tryz.prog Gs 66 [.agg (hC x k p)] (.tup []) := by
  refine Fun_cc [] mo Tryz.func66 (by decide) cc66 rs66 Tryz.ntmps66 (by simp) ?_
  refine AW_run CtOK_nil 1000 ?_
  simp (maxSteps := 10000000) (disch := omega) only [go_sem, c66, hC, reduceIte, seval, -BitVec.isValue, -BitVec.reduceOfNat, -List.reduceReplicate]
def ctAdd1 (x : Xms) (k : XKey) (p : Nat × Nat) : Nat × (List AV → R) := (66, fun a => (a = [.agg (hC x k p)], .tup []))
theorem ctAdd1_ok {x : Xms} {k : XKey} {p : Nat × Nat} {Ct : List (Nat × (List AV → R))} (h : CtOK Tryz.prog Gs Ct) : CtOK Tryz.prog Gs (ctAdd1 x k p :: Ct) := CtOK_cons (fun a e => by
  have e : a = [.agg (hC x k p)] := e
  subst e; exact add1_fun x k p) h
theorem div32 (m : Nat) (h : m < 1000) : BitVec.ofNat 32 m / 2#32 = BitVec.ofNat 32 (m / 2) := by
  apply BitVec.eq_of_toNat_eq
  have e1 : (BitVec.ofNat 32 m).toNat = m := by rw [BitVec.toNat_ofNat]; omega
  have e2 : (BitVec.ofNat 32 (m / 2)).toNat = m / 2 := by rw [BitVec.toNat_ofNat]; omega
  have e3 : (2#32).toNat = 2 := rfl
  rw [BitVec.toNat_udiv, e1, e2, e3]
theorem oi32 (m : Nat) : BitVec.ofInt 32 (m : Int) = BitVec.ofNat 32 m := BitVec.ofInt_natCast 32 m
theorem hC_l (x : Xms) (k : XKey) (p : Nat × Nat) : own.ownL (hC x k p) = false ∧ (∀ m, ren.renL m (hC x k p) = hC x k p) ∧ (∀ n, idk.idkL n (hC x k p) = True) ∧ (∀ H j, (hC x k p).map (frz H (j + 2) false) = hC x k p) ∧ (∀ M, okx.okxL false M (hC x k p) = True) := by
  refine ⟨?_, ?_, ?_, ?_, ?_⟩
  · simp [hC, own, own.ownL, (Enc.ow (nodeAt x k.seed k.pub p.1 p.2)).1]
  · intro m; simp [hC, ren, ren.renL, (Enc.rn m (nodeAt x k.seed k.pub p.1 p.2)).1]
  · intro n; simp [hC, idk, idk.idkL, (Enc.ik n (nodeAt x k.seed k.pub p.1 p.2)).1]
  · intro H j; simp only [hC, List.map_cons, List.map_nil, frz, enc_By, z_8, Bool.false_and]
  · intro M; simp [hC, okx, okx.okxL, enc_By, okxL_8]
theorem stC_l (x : Xms) (k : XKey) : ∀ L : List (Nat × Nat), own.ownL (stC x k L) = false ∧ (∀ m, ren.renL m (stC x k L) = stC x k L) ∧ (∀ n, idk.idkL n (stC x k L) = True) ∧ (∀ H j, (stC x k L).map (frz H (j + 2) false) = stC x k L) ∧ (∀ M, okx.okxL false M (stC x k L) = True)
  | [] => ⟨rfl, fun _ => rfl, fun _ => rfl, fun _ _ => rfl, fun _ => rfl⟩
  | p :: L => by
    obtain ⟨a1, a2, a3, a4, a5⟩ := hC_l x k p
    obtain ⟨b1, b2, b3, b4, b5⟩ := stC_l x k L
    have e : stC x k (p :: L) = hC x k p ++ stC x k L := rfl
    have f1 : ∀ (A B : List AV), own.ownL A = false → own.ownL B = false → own.ownL (A ++ B) = false := by
      intro A B h1 h2
      rw [ownL_iff] at h1 h2 ⊢
      intro z hz
      rcases List.mem_append.1 hz with h | h
      · exact h1 z h
      · exact h2 z h
    have f2 : ∀ (m : List (Nat × Nat)) (A B : List AV), ren.renL m (A ++ B) = ren.renL m A ++ ren.renL m B := by
      intro m A B; induction A with
      | nil => rfl
      | cons z A ih => simp only [List.cons_append, ren.renL, ih]
    have f3 : ∀ (n : Nat) (A B : List AV), idk.idkL n A → idk.idkL n B → idk.idkL n (A ++ B) := by
      intro n A B h1 h2; induction A with
      | nil => exact h2
      | cons z A ih => simp only [List.cons_append, idk.idkL] at h1 ⊢; exact ⟨h1.1, ih h1.2⟩
    rw [e]
    refine ⟨f1 _ _ a1 b1, fun m => by rw [f2, a2, b2], fun n => eq_true (f3 n _ _ (of_eq_true (a3 n)) (of_eq_true (b3 n))), fun H j => by rw [List.map_append, a4, b4], fun M => ?_⟩
    rw [okxL_app, a5, b5]; simp
@[go_sem] theorem stC_o (x : Xms) (k : XKey) (L : List (Nat × Nat)) : own.ownL (stC x k L) = false := (stC_l x k L).1
@[go_sem] theorem stC_r (x : Xms) (k : XKey) (L : List (Nat × Nat)) (m : List (Nat × Nat)) : ren.renL m (stC x k L) = stC x k L := (stC_l x k L).2.1 m
@[go_sem] theorem stC_i (x : Xms) (k : XKey) (L : List (Nat × Nat)) (n : Nat) : idk.idkL n (stC x k L) = True := (stC_l x k L).2.2.1 n
@[go_sem] theorem stC_f (x : Xms) (k : XKey) (L : List (Nat × Nat)) (H : List (Nat × Seg)) (j : Nat) : (stC x k L).map (frz H (j + 2) false) = stC x k L := (stC_l x k L).2.2.2.1 H j
@[go_sem] theorem stC_x (x : Xms) (k : XKey) (L : List (Nat × Nat)) (M : List (Nat × Nat)) : okx.okxL false M (stC x k L) = True := (stC_l x k L).2.2.2.2 M
theorem dom2 {nx : Nat} (h : Nat.blt 1 nx = true) : ∀ i ∈ [0, 1], i < nx ∧ lkd i [] i = i := dom01 h
def σgr (x : Xms) (k : XKey) (told : AV) (n c : Nat) : St :=
  ⟨[(0, .ptr 0 0), (1, told), (4, .ptr 2 0)], [(0, ⟨trC x k (.sl 1 0 (stk n c).length 3) ((n + 1 : Nat) : Int), false⟩), (1, ⟨stC x k (stk n c), false⟩), (2, ⟨hC x k (c, n / 2 ^ c), true⟩)], 3⟩
set_option maxHeartbeats 8000000 in
theorem growsA_funG (x : Xms) (k : XKey) (n : Nat) (hK : KOK x k) (hn : n < 16) :
    FunG Tryz.prog Gs 65 [.ptr 0 0, .fn (.func 66) [] []] [(0, ⟨trC x k (.sl 1 0 (stk n 0).length 3) n, false⟩), (1, ⟨stC x k (stk n 0), false⟩)] (.tup []) [(0, ⟨trC x k (.sl 3 0 (stk (n + 1) 0).length 3) ((n + 1 : Nat) : Int), false⟩), (3, ⟨stC x k (stk (n + 1) 0), false⟩)] := by
  have hlf : leafS x k.seed k.pub (BitVec.ofNat 32 n) = nodeAt x k.seed k.pub 0 n := rfl
  have hnl := fun a b => nodeAt_len hK.ok k.seed k.pub a b
  have hx32 := hK.n
  have hct := ctLeaf_ok (ctAdd1_ok (x := x) (k := k) (p := (0, n)) (CtOK_nil (P := Tryz.prog) (Gl := Gs)))
  refine FunG_cc [ctLeaf, ctAdd1 x k (0, n)] [0, 1] 2 mo Tryz.func65 (by decide) cc65 rs65 Tryz.ntmps65 (by simp) rfl (by decide) rfl ?_
  have hoi := oi32 n
  have h1 : (n : Int) + 1 = ((n + 1 : Nat) : Int) := by omega
  refine AW_run hct 1000 ?_
  simp (maxSteps := 10000000) (disch := omega) only [go_sem, c65, ctLeaf, ctAdd1, trC, hC, hK, hoi, hlf, h1, List.set_cons_zero, List.set_cons_succ, reduceIte, seval, -BitVec.isValue, -BitVec.reduceOfNat, -List.reduceReplicate]
  refine AW_loop (σgr x k (.fn (.func 66) [] []) n) (fun c => c < 5 ∧ n % 2 ^ c = 2 ^ c - 1) (fun c => 5 - c) 0 ⟨by omega, by simp; omega⟩ (Wk_d [] (dom2 rfl) ?_) fun c hc => ?_
  · simp only [go_sem, σgr, trC, hC, reduceIte, seval, -BitVec.isValue, -BitVec.reduceOfNat, -List.reduceReplicate]
    simp
  · obtain ⟨hc5, hones⟩ := hc
    have hq : n / 2 ^ c < 16 := Nat.lt_of_le_of_lt (Nat.div_le_self _ _) hn
    by_cases hb : n / 2 ^ c % 2 = 1
    · obtain ⟨o1, o2, o3, o4, o5⟩ := ones_succ n hn c hc5 ⟨hones, hb⟩
      have ht := stk_top c hc5 n (by omega) hb
      have hlen := stk_lenc (c + 1) (by omega) n (by omega)
      have hAl := stC_len x k (stk n (c + 1))
      have hst : stC x k (stk n c) = stC x k (stk n (c + 1)) ++ hC x k (c, n / 2 ^ c - 1) := by rw [ht, stC_app]
      have hsl : (stk n c).length = (stk n (c + 1)).length + 1 := by rw [ht]; simp
      obtain ⟨m, hm⟩ : ∃ m, m = (stk n (c + 1)).length := ⟨_, rfl⟩
      rw [← hm] at hsl hAl hlen
      have hC3 : hC x k (c, n / 2 ^ c - 1) = [.i c, .u32 (BitVec.ofNat 32 (n / 2 ^ c - 1)), .ros false (nodeAt x k.seed k.pub c (n / 2 ^ c - 1)).length ((nodeAt x k.seed k.pub c (n / 2 ^ c - 1)).map .u8)] := rfl
      have hd : (stC x k (stk n c)).drop (m * 3) = hC x k (c, n / 2 ^ c - 1) := by rw [hst]; exact List.drop_left' (by omega)
      rw [hC3] at hd
      have hg : (stC x k (stk n c)).getD (m * 3) .junk = .i (c : Int) := by rw [hst, getD_app2 _ _ _ _ (by omega), show m * 3 - (stC x k (stk n (c + 1))).length = 0 by omega]; rfl
      have hl : (stC x k (stk n c)).length = m * 3 + 3 := by rw [hst, List.length_append, hAl, Nat.mul_comm]; rfl
      have htk : (stC x k (stk n c)).take (m * 3) = stC x k (stk n (c + 1)) := by rw [hst]; exact List.take_left' (by omega)
      have htake := xtake_funG x k (stC x k (stk n (c + 1))) (c, n / 2 ^ c - 1) m ((n + 1 : Nat) : Int) hAl (by omega)
      rw [← hst] at htake
      have e1 : ((m + 1 : Nat) : Int) - 1 = (m : Int) := by omega
      have hdv := div32 (n / 2 ^ c) (by omega)
      have hoc := oi32 c
      have hnode : nodeS x k.pub (adT c (n / 2 ^ c / 2)) (nodeAt x k.seed k.pub c (n / 2 ^ c - 1)) (nodeAt x k.seed k.pub c (n / 2 ^ c)) = nodeAt x k.seed k.pub (c + 1) (n / 2 ^ (c + 1)) := by
        rw [o3, nodeAt, o5, o4]
      have hwe : ([.u32 0, .u32 0, .u32 0, .u32 2, .u32 0, .u32 (BitVec.ofNat 32 c), .u32 (BitVec.ofNat 32 (n / 2 ^ c / 2)), .u32 0] : List AV) = (adT c (n / 2 ^ c / 2)).map .u32 := rfl
      have hwl : (adT c (n / 2 ^ c / 2)).length = 8 := rfl
      have h1c : (c : Int) + 1 = ((c + 1 : Nat) : Int) := by omega
      have hn0 := CtOK_nil (P := Tryz.prog) (Gl := Gs)
      refine AW_ct [] (AW_run hn0 1000 ?_)
      simp (maxSteps := 10000000) (disch := omega) only [go_sem, σgr, trC, hC, hsl, e1, hg, hd, hl, reduceIte, seval, -BitVec.isValue, -BitVec.reduceOfNat, -List.reduceReplicate]
      refine AW_callGd [(0, 0), (1, 1)] [] 3 [] false [] [] (by simp only [go_sem, reduceIte, seval, -BitVec.isValue, -BitVec.reduceOfNat, -List.reduceReplicate]) (by simp only [go_sem, reduceIte, seval, -BitVec.isValue, -BitVec.reduceOfNat, -List.reduceReplicate]) htake (by rfl) (.inr rfl) (by simp only [go_sem, reduceIte, seval, -BitVec.isValue, -BitVec.reduceOfNat, -List.reduceReplicate]) (by rfl) (by simp only [go_sem, reduceIte, seval, -BitVec.isValue, -BitVec.reduceOfNat, -List.reduceReplicate]; try simp) (by simp only [go_sem, trC, reduceIte, seval, -BitVec.isValue, -BitVec.reduceOfNat, -List.reduceReplicate]; try simp) (by simp only [go_sem, hC, reduceIte, seval, -BitVec.isValue, -BitVec.reduceOfNat, -List.reduceReplicate]) (by simp only [go_sem, trC, reduceIte, seval, -BitVec.isValue, -BitVec.reduceOfNat, -List.reduceReplicate]) ?_
      have hct2 := ctNode_ok (ctAdd1_ok (x := x) (k := k) (p := (c + 1, n / 2 ^ (c + 1))) hn0)
      refine AW_ct [ctNode, ctAdd1 x k (c + 1, n / 2 ^ (c + 1))] (AW_run hct2 1000 ?_)
      have hdv' : BitVec.ofNat 32 (n / 2 ^ c) / (2 : BitVec 32) = BitVec.ofNat 32 (n / 2 ^ c / 2) := hdv
      have kb := hK.b
      have p1 := hnl c (n / 2 ^ c - 1)
      have p2 := hnl c (n / 2 ^ c)
      have p3 := hnl (c + 1) (n / 2 ^ (c + 1))
      rw [← o3] at hdv hdv' hwe hwl hnode
      simp (maxSteps := 10000000) (disch := omega) only [go_sem, ctNode, ctAdd1, trC, hC, xmC, hoc, hdv, hdv', hwe, hwl, hK.ok, p1, p2, p3, hnode, h1c, List.set_cons_zero, List.set_cons_succ, List.getD_cons_zero, List.getD_cons_succ, reduceIte, seval, -BitVec.isValue, -BitVec.reduceOfNat, -List.reduceReplicate]
      refine ⟨c + 1, ⟨by omega, o1⟩, Wk_uf 2 [] (Wk_tr 1 (m * 3) (Wk_d [] (dom2 rfl) ?_)), by omega⟩
      simp only [go_sem, σgr, trC, hC, ufF, ufH, mapH, htk, ← hm, p3, reduceIte, seval, -BitVec.isValue, -BitVec.reduceOfNat, -List.reduceReplicate]
      try simp
    · have hb0 : n / 2 ^ c % 2 = 0 := by omega
      have hput := xput_funG x k (stC x k (stk n c)) (c, n / 2 ^ c) (stk n c).length ((n + 1 : Nat) : Int) (stC_len x k _) (by have := stk_lenc c (by omega) n (by omega); omega)
      have hsp := stk_put c hc5 n hn ⟨hones, hb0⟩
      have hfin : stC x k (stk n c) ++ hC x k (c, n / 2 ^ c) = stC x k (stk (n + 1) 0) := by rw [← hsp, stC_app]
      have hfl : (stk n c).length + 1 = (stk (n + 1) 0).length := by rw [← hsp]; simp
      rw [hfin, hfl] at hput
      have hn0 := CtOK_nil (P := Tryz.prog) (Gl := Gs)
      have hsl := stk_lenc c (by omega) n (by omega)
      rcases stk_non c hc5 n (by omega) hb0 with hnil | ⟨p, L, hL, hp⟩
      · have hl0 : (stk n c).length = 0 := by rw [hnil]; rfl
        rw [hl0] at hput
        refine AW_ct [] (AW_run hn0 1000 ?_)
        simp (maxSteps := 10000000) (disch := omega) only [go_sem, σgr, trC, hC, hl0, reduceIte, seval, -BitVec.isValue, -BitVec.reduceOfNat, -List.reduceReplicate]
        refine AW_callGd [(0, 0), (1, 1)] [(4, 3)] 4 [] false [] [] (by simp only [go_sem, reduceIte, seval, -BitVec.isValue, -BitVec.reduceOfNat, -List.reduceReplicate]) (by simp only [go_sem, reduceIte, seval, -BitVec.isValue, -BitVec.reduceOfNat, -List.reduceReplicate]) hput (by rfl) (.inr rfl) (by simp only [go_sem, reduceIte, seval, -BitVec.isValue, -BitVec.reduceOfNat, -List.reduceReplicate]) (by rfl) (by simp only [go_sem, hC, reduceIte, seval, -BitVec.isValue, -BitVec.reduceOfNat, -List.reduceReplicate]; try simp) (by simp only [go_sem, trC, reduceIte, seval, -BitVec.isValue, -BitVec.reduceOfNat, -List.reduceReplicate]; try simp) (by simp only [go_sem, reduceIte, seval, -BitVec.isValue, -BitVec.reduceOfNat, -List.reduceReplicate]) (by simp only [go_sem, trC, reduceIte, seval, -BitVec.isValue, -BitVec.reduceOfNat, -List.reduceReplicate]) ?_
        refine AW_ct [] (AW_run hn0 1000 ?_)
        simp (maxSteps := 10000000) (disch := omega) only [go_sem, trC, reduceIte, seval, -BitVec.isValue, -BitVec.reduceOfNat, -List.reduceReplicate]
        try simp
      · have hl0 : (stk n c).length = L.length + 1 := by rw [hL]; simp
        have hAl := stC_len x k L
        have hg : (stC x k (stk n c)).getD (L.length * 3) .junk = .i (p.1 : Int) := by rw [hL, stC_app, getD_app2 _ _ _ _ (by omega), show L.length * 3 - (stC x k L).length = 0 by omega]; rfl
        have hl : (stC x k (stk n c)).length = L.length * 3 + 3 := by rw [stC_len, hl0]; omega
        have e1 : ((L.length + 1 : Nat) : Int) - 1 = (L.length : Int) := by omega
        have hpi : ¬ ((p.1 : Nat) : Int) = (c : Int) := by omega
        rw [hl0] at hput
        refine AW_ct [] (AW_run hn0 1000 ?_)
        simp (maxSteps := 10000000) (disch := omega) only [go_sem, σgr, trC, hC, hl0, e1, hg, hl, eq_false hpi, reduceIte, seval, -BitVec.isValue, -BitVec.reduceOfNat, -List.reduceReplicate]
        refine AW_callGd [(0, 0), (1, 1)] [(4, 3)] 4 [] false [] [] (by simp only [go_sem, reduceIte, seval, -BitVec.isValue, -BitVec.reduceOfNat, -List.reduceReplicate]) (by simp only [go_sem, reduceIte, seval, -BitVec.isValue, -BitVec.reduceOfNat, -List.reduceReplicate]) hput (by rfl) (.inr rfl) (by simp only [go_sem, reduceIte, seval, -BitVec.isValue, -BitVec.reduceOfNat, -List.reduceReplicate]) (by rfl) (by simp only [go_sem, hC, reduceIte, seval, -BitVec.isValue, -BitVec.reduceOfNat, -List.reduceReplicate]; try simp) (by simp only [go_sem, trC, reduceIte, seval, -BitVec.isValue, -BitVec.reduceOfNat, -List.reduceReplicate]; try simp) (by simp only [go_sem, reduceIte, seval, -BitVec.isValue, -BitVec.reduceOfNat, -List.reduceReplicate]) (by simp only [go_sem, trC, reduceIte, seval, -BitVec.isValue, -BitVec.reduceOfNat, -List.reduceReplicate]) ?_
        refine AW_ct [] (AW_run hn0 1000 ?_)
        simp (maxSteps := 10000000) (disch := omega) only [go_sem, trC, reduceIte, seval, -BitVec.isValue, -BitVec.reduceOfNat, -List.reduceReplicate]
        try simp
end Go.Lv
