/- A part of the proof (GH). -/
import Derived.Test.YtjehnljbhmjgoaaGreatDoorGQ
import Derived.Test.YtjehnljbhmjgoaaGreatDoorFF
import Derived.Test.YtjehnljbhmjgoaaGreatDoorGK
set_option linter.all false
namespace Go.Lv
open Go Go.Proofs
set_option linter.unusedSimpArgs false
set_option maxRecDepth 100000
set_option maxHeartbeats 1000000 in
theorem xmay_fun (x : Xms) (ps : List By) (hp : bbOK ps) : Fun Tryz.prog Gs 143 [Enc.enc x, Enc.enc ps] (.i (wmayE x ps)) := by
  refine Fun_cc [ctXmss 190] mo Tryz.func143 (by decide) cc143 rs143 Tryz.ntmps143 (by simp) ?_
  have hct := ctXmss_ok CtOK_nil
  obtain ⟨hp0, hp1⟩ := hp
  by_cases h : xmsT x.code = some x
  · rw [wmayE, if_pos h]
    have hX : xmsR x.code = .tup [.agg [.u32 x.code, .b x.shake, .i x.n, .i x.h, .i x.len], .i 0] := by rw [xmsR, h]; rfl
    refine AW_run hct 1000 ?_
    simp (maxSteps := 10000000) (disch := omega) only [go_sem, c143, ctXmss, hX, eqL, eq1, reduceIte, seval, -BitVec.isValue, -BitVec.reduceOfNat, -List.reduceReplicate]
    refine AW_loop (σwm x ps) (fun k => k ≤ ps.length ∧ lenP x.n ps k) (fun k => ps.length - k) 0 ⟨Nat.zero_le _, fun j hj => absurd hj (Nat.not_lt_zero j)⟩ (Wk_p [] ?_) fun k hk => ?_
    · simp only [go_sem, σwm, xmC, reduceIte, seval, -BitVec.isValue, -BitVec.reduceOfNat, -List.reduceReplicate]
      try simp
    · obtain ⟨hk, hl⟩ := hk
      refine AW_ct [ctXmss 190] (AW_run hct 1000 ?_)
      by_cases hc : k < ps.length
      · have hc' : (k : Int) < ps.length := by omega
        by_cases hq : ((ps.getD k []).length : Int) = x.n
        · simp (maxSteps := 10000000) (disch := omega) only [go_sem, σwm, xmC, hc', eq_true hq, reduceIte, seval, -BitVec.isValue, -BitVec.reduceOfNat, -List.reduceReplicate]
          refine ⟨k + 1, ⟨by omega, fun j hj => ?_⟩, Wk_p [] ?_, by omega⟩
          · by_cases e : j < k
            · exact hl j e
            · rw [show j = k by omega]; exact hq
          · simp only [go_sem, σwm, xmC, reduceIte, seval, -BitVec.isValue, -BitVec.reduceOfNat, -List.reduceReplicate]
            try simp
        · have hn : ¬ ∀ p ∈ ps, (p.length : Int) = x.n := fun ha => hq (by
            have := ha (ps[k]) (List.getElem_mem hc)
            simpa [List.getD_eq_getElem?_getD, hc] using this)
          rw [if_neg hn]
          simp (maxSteps := 10000000) (disch := omega) only [go_sem, σwm, xmC, hc', eq_false hq, reduceIte, seval, -BitVec.isValue, -BitVec.reduceOfNat, -List.reduceReplicate]
          try simp
      · have : k = ps.length := by omega
        subst this
        rw [if_pos (lenP_all hl)]
        simp (maxSteps := 10000000) (disch := omega) only [go_sem, σwm, xmC, reduceIte, seval, -BitVec.isValue, -BitVec.reduceOfNat, -List.reduceReplicate]
        try simp
  · rw [wmayE, if_neg h]
    cases h2 : xmsT x.code with
    | none =>
      have hX : xmsR x.code = .tup [.agg [.u32 0, .b false, .i 0, .i 0, .i 0], .i 60] := by rw [xmsR, h2]; rfl
      refine AW_run hct 1000 ?_
      simp (maxSteps := 10000000) (disch := omega) only [go_sem, c143, ctXmss, hX, reduceIte, seval, -BitVec.isValue, -BitVec.reduceOfNat, -List.reduceReplicate]
      try simp
    | some y =>
      have hX : xmsR x.code = .tup [.agg [.u32 y.code, .b y.shake, .i y.n, .i y.h, .i y.len], .i 0] := by rw [xmsR, h2]; rfl
      have e : ¬ y = x := fun e => h (by rw [h2, e])
      have e2 : (decide (x.code = y.code) && (decide (x.shake = y.shake) && (decide (x.n = y.n) && (decide (x.h = y.h) && decide (x.len = y.len))))) = false := by
        simp only [← Bool.decide_and]; exact decide_eq_false fun ⟨a, b, c, d, f⟩ => e (by cases x; cases y; simp_all)
      refine AW_run hct 1000 ?_
      simp (maxSteps := 10000000) (disch := omega) only [go_sem, c143, ctXmss, hX, eqL, eq1, Bool.and_true, e2, reduceIte, seval, -BitVec.isValue, -BitVec.reduceOfNat, -List.reduceReplicate]
      try simp
def ctXmay : Nat × (List AV → R) := (143, A2 fun (x : Xms) (ps : List By) => (bbOK ps, .i (wmayE x ps)))
theorem ctXmay_ok {Ct : List (Nat × (List AV → R))} (h : CtOK Tryz.prog Gs Ct) : CtOK Tryz.prog Gs (ctXmay :: Ct) := CtOK_cons (Row2 fun x ps h => xmay_fun x ps h) h
def σrxm (x : Xms) (ps : List By) (k : Nat) : St := ⟨[(2, .ptr 0 0), (10, Enc.enc ps), (11, .i ps.length), (12, .i k)], [(0, ⟨xmC x, true⟩)], 1⟩
set_option maxHeartbeats 1000000 in
theorem rxmay_fun (x : Xms) (ps : List By) (hp : bbOK ps) : Fun Tryz.prog Gs 82 [Enc.enc x, Enc.enc ps] (.i (wmayE x ps)) := by
  refine Fun_cc [ctRMayXmss] mo Tryz.func82 (by decide) cc82 rs82 Tryz.ntmps82 (by simp) ?_
  have hct := ctRMayXmss_ok (CtOK_nil (P := Tryz.prog) (Gl := Gs))
  obtain ⟨hp0, hp1⟩ := hp
  by_cases h : xmsT x.code = some x
  · rw [wmayE, if_pos h]
    refine AW_run hct 1000 ?_
    simp (maxSteps := 10000000) (disch := omega) only [go_sem, c82, ctRMayXmss, h, decide_true, reduceIte, seval, -BitVec.isValue, -BitVec.reduceOfNat, -List.reduceReplicate]
    refine AW_loop (σrxm x ps) (fun k => k ≤ ps.length ∧ lenP x.n ps k) (fun k => ps.length - k) 0 ⟨Nat.zero_le _, fun j hj => absurd hj (Nat.not_lt_zero j)⟩ (Wk_p [] ?_) fun k hk => ?_
    · simp only [go_sem, σrxm, xmC, reduceIte, seval, -BitVec.isValue, -BitVec.reduceOfNat, -List.reduceReplicate]
      try simp
    · obtain ⟨hk, hl⟩ := hk
      refine AW_ct [ctRMayXmss] (AW_run hct 1000 ?_)
      by_cases hc : k < ps.length
      · have hc' : (k : Int) < ps.length := by omega
        by_cases hq : ((ps.getD k []).length : Int) = x.n
        · simp (maxSteps := 10000000) (disch := omega) only [go_sem, σrxm, xmC, hc', eq_true hq, reduceIte, seval, -BitVec.isValue, -BitVec.reduceOfNat, -List.reduceReplicate]
          refine ⟨k + 1, ⟨by omega, fun j hj => ?_⟩, Wk_p [] ?_, by omega⟩
          · by_cases e : j < k
            · exact hl j e
            · rw [show j = k by omega]; exact hq
          · simp only [go_sem, σrxm, xmC, reduceIte, seval, -BitVec.isValue, -BitVec.reduceOfNat, -List.reduceReplicate]
            try simp
        · have hn : ¬ ∀ p ∈ ps, (p.length : Int) = x.n := fun ha => hq (by
            have := ha (ps[k]) (List.getElem_mem hc)
            simpa [List.getD_eq_getElem?_getD, hc] using this)
          rw [if_neg hn]
          simp (maxSteps := 10000000) (disch := omega) only [go_sem, σrxm, xmC, hc', eq_false hq, reduceIte, seval, -BitVec.isValue, -BitVec.reduceOfNat, -List.reduceReplicate]
          try simp
      · have : k = ps.length := by omega
        subst this
        rw [if_pos (lenP_all hl)]
        simp (maxSteps := 10000000) (disch := omega) only [go_sem, σrxm, xmC, reduceIte, seval, -BitVec.isValue, -BitVec.reduceOfNat, -List.reduceReplicate]
        try simp
  · rw [wmayE, if_neg h]
    refine AW_run hct 1000 ?_
    simp (maxSteps := 10000000) (disch := omega) only [go_sem, c82, ctRMayXmss, h, decide_false, reduceIte, seval, -BitVec.isValue, -BitVec.reduceOfNat, -List.reduceReplicate]
    try simp
def ctRXmay : Nat × (List AV → R) := (82, A2 fun (x : Xms) (ps : List By) => (bbOK ps, .i (wmayE x ps)))
theorem ctRXmay_ok {Ct : List (Nat × (List AV → R))} (h : CtOK Tryz.prog Gs Ct) : CtOK Tryz.prog Gs (ctRXmay :: Ct) := CtOK_cons (Row2 fun x ps h => rxmay_fun x ps h) h
def oxL (a b : By) (k : Nat) : By := fillL a.length (fun j => a.getD j 0 ^^^ b.getD j 0) (fun _ => 0) k
theorem oxL_len (a b : By) (k : Nat) : (oxL a b k).length = a.length := fillL_len ..
theorem oxL_zero (a b : By) : oxL a b 0 = List.replicate a.length 0#8 := by
  rw [oxL, fillL_zero]
  apply List.ext_getElem
  · simp
  · intro i h1 h2; simp
theorem oxL_all (a b : By) (h : a.length = b.length) : oxL a b a.length = xorL a b := by
  rw [oxL, fillL_all]
  apply List.ext_getElem
  · simp [xorL, h]
  · intro i h1 h2
    have e1 : i < a.length := by simpa using h1
    have e2 : i < b.length := by omega
    simp [xorL, List.getD_eq_getElem?_getD, e1, e2]
def σox (a b : By) (k : Nat) : St := ⟨[(0, Enc.enc a), (1, Enc.enc b), (6, .sl 0 0 a.length 1), (17, .i a.length), (18, .i k)], [(0, ⟨(oxL a b k).map .u8, true⟩)], 1⟩
set_option maxHeartbeats 1000000 in
theorem oXor_fun (a b : By) (h : a.length = b.length) (ha : a.length ≤ 100000000) : Fun Tryz.prog Gs 193 [Enc.enc a, Enc.enc b] (.tup [Enc.ret (xorL a b), .i 0]) := by
  refine Fun_cc [] mo Tryz.func193 (by decide) cc193 rs193 Tryz.ntmps193 (by simp) ?_
  have hh : (a.length : Int) = b.length := by omega
  refine AW_run (CtOK_nil (P := Tryz.prog) (Gl := Gs)) 1000 ?_
  simp (maxSteps := 10000000) (disch := omega) only [go_sem, c193, eq_true hh, reduceIte, seval, -BitVec.isValue, -BitVec.reduceOfNat, -List.reduceReplicate]
  refine AW_loop (σox a b) (fun k => k ≤ a.length) (fun k => a.length - k) 0 (Nat.zero_le _) (Wk_p [] ?_) fun k hk => ?_
  · simp only [go_sem, σox, oxL_zero, reduceIte, seval, -BitVec.isValue, -BitVec.reduceOfNat, -List.reduceReplicate]
    try simp
  · have hl := oxL_len a b k
    refine AW_run (CtOK_nil (P := Tryz.prog) (Gl := Gs)) 1000 ?_
    by_cases hc : k < a.length
    · have hc' : (k : Int) < a.length := by omega
      have hs : (oxL a b k).set k (a.getD k 0 ^^^ b.getD k 0) = oxL a b (k + 1) := fillL_set hc
      simp (maxSteps := 10000000) (disch := omega) only [go_sem, σox, hc', hl, reduceIte, seval, -BitVec.isValue, -BitVec.reduceOfNat, -List.reduceReplicate]
      refine ⟨k + 1, by omega, Wk_p [] ?_, by omega⟩
      simp only [go_sem, σox, hs, reduceIte, seval, -BitVec.isValue, -BitVec.reduceOfNat, -List.reduceReplicate]
      try simp
    · have : k = a.length := by omega
      subst this
      have hall := oxL_all a b h
      have hxl := xorL_len a b h
      have htk : (xorL a b).take a.length = xorL a b := List.take_of_length_le (by omega)
      simp (maxSteps := 10000000) (disch := omega) only [go_sem, σox, hall, hxl, htk, reduceIte, seval, -BitVec.isValue, -BitVec.reduceOfNat, -List.reduceReplicate]
      try simp
def ctOXor : Nat × (List AV → R) := (193, A2 fun a b : By => (a.length = b.length ∧ a.length ≤ 100000000, .tup [Enc.ret (xorL a b), .i 0]))
theorem ctOXor_ok {Ct : List (Nat × (List AV → R))} (h : CtOK Tryz.prog Gs Ct) : CtOK Tryz.prog Gs (ctOXor :: Ct) := CtOK_cons (Row2 fun a b h => oXor_fun a b h.1 h.2) h
end Go.Lv
namespace Go.Lv
open Go Go.Proofs
set_option linter.unusedSimpArgs false
set_option maxRecDepth 100000
def npS (x : Xms) (seed : By) (ws : List (BitVec 32)) (c : BitVec 32) : By := kyS x 3#64 seed (adrS (ws.set 7 c))
def nodeS (x : Xms) (seed : By) (ws : List (BitVec 32)) (l r : By) : By := kyS x 1#64 (npS x seed ws 0#32) (xorL l (npS x seed ws 1#32) ++ xorL r (npS x seed ws 2#32))
def wsJ (ws : List (BitVec 32)) : Nat → List (BitVec 32)
  | 0 => ws
  | 1 => ws.set 7 0#32
  | 2 => ws.set 7 1#32
  | _ => ws.set 7 2#32
def npC (p0 p1 p2 : By) : Nat → List AV
  | 0 => [.nils, .nils, .nils]
  | 1 => [Enc.ret p0, .nils, .nils]
  | 2 => [Enc.ret p0, Enc.ret p1, .nils]
  | _ => [Enc.ret p0, Enc.ret p1, Enc.ret p2]
theorem npS_len {x : Xms} (h : xmsT x.code = some x) (seed : By) (ws : List (BitVec 32)) (c : BitVec 32) : (npS x seed ws c).length = x.n.toNat := kyS_len h _ _ _
theorem nodeS_len {x : Xms} (h : xmsT x.code = some x) (seed : By) (ws : List (BitVec 32)) (l r : By) : (nodeS x seed ws l r).length = x.n.toNat := kyS_len h _ _ _
def σnd (x : Xms) (seed : By) (ws : List (BitVec 32)) (l r p0 p1 p2 : By) (k : Nat) : St :=
  ⟨[(1, Enc.enc seed), (3, Enc.enc l), (4, Enc.enc r), (5, .ptr 0 0), (7, .ptr 1 0), (11, .ptr 2 0), (18, .i k)], [(0, ⟨xmC x, true⟩), (1, ⟨(wsJ ws k).map .u32, true⟩), (2, ⟨npC p0 p1 p2 k, true⟩)], 3⟩
set_option maxHeartbeats 4000000 in
theorem node_fun (x : Xms) (seed : By) (ws : List (BitVec 32)) (l r : By) (hx : xmsT x.code = some x) (hs : seed.length ≤ 100000000) (hw : ws.length = 8) (hl : l.length = x.n.toNat) (hr : r.length = x.n.toNat) :
    Fun Tryz.prog Gs 144 [Enc.enc x, Enc.enc seed, Enc.enc (⟨ws⟩ : Ar (BitVec 32)), Enc.enc l, Enc.enc r] (Enc.ret (nodeS x seed ws l r)) := by
  refine Fun_cc [ctWBytes, ctWPrf] mo Tryz.func144 (by decide) cc144 rs144 Tryz.ntmps144 (by simp) ?_
  have hct := ctWBytes_ok (ctWPrf_ok (CtOK_nil (P := Tryz.prog) (Gl := Gs)))
  have hn : 0 ≤ x.n ∧ x.n ≤ 32 := by rcases xmsT_n hx with ⟨h, _⟩ | ⟨h, _⟩ <;> omega
  have hR : ∀ t, sumR x 3#64 seed t = Enc.ret (kyS x 3#64 seed t) := fun t => by rw [sumR, if_pos hx]
  have L : ∀ c : BitVec 32, (ws.set 7 c).length = 8 := fun c => by simp [hw]
  have T : ∀ c : BitVec 32, (ws.set 7 c).take 8 = ws.set 7 c := fun c => List.take_of_length_le (by rw [L]; omega)
  have A : ∀ c : BitVec 32, (adrS (ws.set 7 c)).length = 32 := fun c => by rw [adrS_len, L]
  have AT : ∀ c : BitVec 32, (adrS (ws.set 7 c)).take 32 = adrS (ws.set 7 c) := fun c => List.take_of_length_le (by rw [A]; omega)
  have p0 := npS_len hx seed ws 0#32
  have p1 := npS_len hx seed ws 1#32
  have p2 := npS_len hx seed ws 2#32
  have q0 : kyS x 3#64 seed (adrS (ws.set 7 0#32)) = npS x seed ws 0#32 := rfl
  have q1 : kyS x 3#64 seed (adrS (ws.set 7 1#32)) = npS x seed ws 1#32 := rfl
  have q2 : kyS x 3#64 seed (adrS (ws.set 7 2#32)) = npS x seed ws 2#32 := rfl
  have hnd : nodeS x seed ws l r = kyS x 1#64 (npS x seed ws 0#32) (xorL l (npS x seed ws 1#32) ++ xorL r (npS x seed ws 2#32)) := rfl
  have hkl := nodeS_len hx seed ws l r
  obtain ⟨P0, e0⟩ : ∃ P0, P0 = npS x seed ws 0#32 := ⟨_, rfl⟩
  obtain ⟨P1, e1⟩ : ∃ P1, P1 = npS x seed ws 1#32 := ⟨_, rfl⟩
  obtain ⟨P2, e2⟩ : ∃ P2, P2 = npS x seed ws 2#32 := ⟨_, rfl⟩
  rw [← e0] at p0 q0 hnd
  rw [← e1] at p1 q1 hnd
  rw [← e2] at p2 q2 hnd
  have w0 : BitVec.ofInt 32 0 = 0#32 := rfl
  have w1 : BitVec.ofInt 32 1 = 1#32 := rfl
  have w2 : BitVec.ofInt 32 2 = 2#32 := rfl
  refine AW_run hct 1000 ?_
  simp (maxSteps := 10000000) (disch := omega) only [go_sem, c144, ctWBytes, ctWPrf, xmC, hw, reduceIte, seval, -BitVec.isValue, -BitVec.reduceOfNat, -List.reduceReplicate]
  refine AW_loop (σnd x seed ws l r P0 P1 P2) (fun k => k ≤ 3) (fun k => 3 - k) 0 (Nat.zero_le _) (Wk_p [] ?_) fun k hk => ?_
  · simp only [go_sem, σnd, xmC, wsJ, npC, reduceIte, seval, -BitVec.isValue, -BitVec.reduceOfNat, -List.reduceReplicate]
    try simp
  · rcases (by omega : k = 0 ∨ k = 1 ∨ k = 2 ∨ k = 3) with rfl | rfl | rfl | rfl
    · refine AW_ct [ctWBytes, ctWPrf] (AW_run hct 1000 ?_)
      simp (maxSteps := 10000000) (disch := omega) only [go_sem, σnd, ctWBytes, ctWPrf, xmC, hw, wsJ, npC, w0, L, T, A, AT, hR, q0, ← List.map_set, List.set_cons_zero, List.set_cons_succ, reduceIte, seval, -BitVec.isValue, -BitVec.reduceOfNat, -List.reduceReplicate]
      refine ⟨1, by omega, Wk_p [] ?_, by omega⟩
      simp only [go_sem, σnd, xmC, wsJ, npC, reduceIte, seval, -BitVec.isValue, -BitVec.reduceOfNat, -List.reduceReplicate]
      try simp
    · refine AW_ct [ctWBytes, ctWPrf] (AW_run hct 1000 ?_)
      simp (maxSteps := 10000000) (disch := omega) only [go_sem, σnd, ctWBytes, ctWPrf, xmC, hw, wsJ, npC, w1, L, T, A, AT, hR, q1, ← List.map_set, List.set_set, List.set_cons_zero, List.set_cons_succ, reduceIte, seval, -BitVec.isValue, -BitVec.reduceOfNat, -List.reduceReplicate]
      refine ⟨2, by omega, Wk_p [] ?_, by omega⟩
      simp only [go_sem, σnd, xmC, wsJ, npC, reduceIte, seval, -BitVec.isValue, -BitVec.reduceOfNat, -List.reduceReplicate]
      try simp
    · refine AW_ct [ctWBytes, ctWPrf] (AW_run hct 1000 ?_)
      simp (maxSteps := 10000000) (disch := omega) only [go_sem, σnd, ctWBytes, ctWPrf, xmC, hw, wsJ, npC, w2, L, T, A, AT, hR, q2, ← List.map_set, List.set_set, List.set_cons_zero, List.set_cons_succ, reduceIte, seval, -BitVec.isValue, -BitVec.reduceOfNat, -List.reduceReplicate]
      refine ⟨3, by omega, Wk_p [] ?_, by omega⟩
      simp only [go_sem, σnd, xmC, wsJ, npC, reduceIte, seval, -BitVec.isValue, -BitVec.reduceOfNat, -List.reduceReplicate]
      try simp
    · have x1 := xorL_len l P1 (by omega)
      have x2 := xorL_len r P2 (by omega)
      have hR1 : ∀ t, sumR x 1#64 P0 t = Enc.ret (kyS x 1#64 P0 t) := fun t => by rw [sumR, if_pos hx]
      have hfl : [xorL l P1, xorL r P2].flatten = xorL l P1 ++ xorL r P2 := by simp
      have hct2 := mark_ok 52 (ctOXor_ok (ctOJoin_ok (ctWH_ok (CtOK_nil (P := Tryz.prog) (Gl := Gs)))))
      refine AW_ct _ (AW_run hct2 1000 ?_)
      simp (maxSteps := 10000000) (disch := omega) only [go_sem, σnd, mark, ctOXor, ctOJoin, ctWH, xmC, hw, wsJ, npC, L, x1, x2, hR1, hfl, ← hnd, hl, hr, p0, p1, p2, deL_cons, deL_nil, reduceIte, seval, -BitVec.isValue, -BitVec.reduceOfNat, -List.reduceReplicate]
      try simp
def ctNode : Nat × (List AV → R) := (144, A5 fun (x : Xms) (seed : By) (a : Ar (BitVec 32)) (l r : By) => (xmsT x.code = some x ∧ seed.length ≤ 100000000 ∧ a.l.length = 8 ∧ l.length = x.n.toNat ∧ r.length = x.n.toNat, Enc.ret (nodeS x seed a.l l r)))
theorem ctNode_ok {Ct : List (Nat × (List AV → R))} (h : CtOK Tryz.prog Gs Ct) : CtOK Tryz.prog Gs (ctNode :: Ct) := CtOK_cons (Row5 fun x seed a l r h => node_fun x seed a.l l r h.1 h.2.1 h.2.2.1 h.2.2.2.1 h.2.2.2.2) h
end Go.Lv
namespace Go.Lv
open Go Go.Proofs
set_option linter.unusedSimpArgs false
set_option maxRecDepth 100000
def nodV (x : Xms) (seed : By) (ws : List (BitVec 32)) (l r : By) : By := if wmayE x [seed, l, r] = 0 then nodeS x seed ws l r else []
set_option maxHeartbeats 2000000 in
theorem XNode_fun (x : Xms) (seed : By) (ws : List (BitVec 32)) (l r : By) (hs : seed.length ≤ 140737488351232) (hl : l.length ≤ 140737488351232) (hr : r.length ≤ 140737488351232) (hw : ws.length = 8) :
    Fun Tryz.prog Gs 77 [Enc.enc x, Enc.enc seed, Enc.enc (⟨ws⟩ : Ar (BitVec 32)), Enc.enc l, Enc.enc r] (.tup [Enc.ret (nodV x seed ws l r), .i (wmayE x [seed, l, r])]) := by
  have hbb := bb3 seed l r hs hl hr
  have hwt : ws.take 8 = ws := List.take_of_length_le (by omega)
  by_cases h : wmayE x [seed, l, r] = 0
  · obtain ⟨hx, hp⟩ := wmayE_zero h
    have h1 := hp seed (by simp)
    have h2 := hp l (by simp)
    have h3 := hp r (by simp)
    have hn : 0 ≤ x.n ∧ x.n ≤ 32 := by rcases xmsT_n hx with ⟨h, _⟩ | ⟨h, _⟩ <;> omega
    have g2 : l.length = x.n.toNat := by omega
    have g3 : r.length = x.n.toNat := by omega
    rw [nodV, if_pos h, h]
    have hct := mark_ok 17 (ctXmay_ok (ctNode_ok (CtOK_nil (P := Tryz.prog) (Gl := Gs))))
    refine Fun_cc _ mo Tryz.func77 (by decide) cc77 rs77 Tryz.ntmps77 (by simp) (AW_run hct 1000 ?_)
    simp (maxSteps := 10000000) (disch := omega) only [go_sem, c77, mark, ctXmay, ctNode, xmC, h, hx, hbb, hw, hwt, deL_cons, deL_nil, reduceIte, seval, -BitVec.isValue, -BitVec.reduceOfNat, -List.reduceReplicate]
    try simp
  · rw [nodV, if_neg h]
    obtain ⟨e, he⟩ : ∃ e, e = wmayE x [seed, l, r] := ⟨_, rfl⟩
    rw [← he] at h ⊢
    have hct := mark_ok 17 (ctXmay_ok (CtOK_nil (P := Tryz.prog) (Gl := Gs)))
    refine Fun_cc _ mo Tryz.func77 (by decide) cc77 rs77 Tryz.ntmps77 (by simp) (AW_run hct 1000 ?_)
    simp (maxSteps := 10000000) (disch := omega) only [go_sem, c77, mark, ctXmay, ← he, eq_false h, hbb, hw, deL_cons, deL_nil, reduceIte, seval, -BitVec.isValue, -BitVec.reduceOfNat, -List.reduceReplicate]
    try simp
def ctXNode : Nat × (List AV → R) := (77, A5 fun (x : Xms) (seed : By) (a : Ar (BitVec 32)) (l r : By) => (seed.length ≤ 140737488351232 ∧ l.length ≤ 140737488351232 ∧ r.length ≤ 140737488351232 ∧ a.l.length = 8, .tup [Enc.ret (nodV x seed a.l l r), .i (wmayE x [seed, l, r])]))
theorem ctXNode_ok {Ct : List (Nat × (List AV → R))} (h : CtOK Tryz.prog Gs Ct) : CtOK Tryz.prog Gs (ctXNode :: Ct) := CtOK_cons (Row5 fun x seed a l r h => XNode_fun x seed a.l l r h.1 h.2.1 h.2.2.1 h.2.2.2) h
def rnU : Nat → BitVec 32
  | 0 => 0#32
  | 1 => 1#32
  | 2 => 2#32
  | _ => 3#32
def rnC (p0 p1 p2 : By) : Nat → List AV
  | 0 => []
  | 1 => [Enc.ret p0]
  | 2 => [Enc.ret p0, Enc.ret p1]
  | _ => [Enc.ret p0, Enc.ret p1, Enc.ret p2]
def σrn (x : Xms) (seed : By) (ws : List (BitVec 32)) (l r p0 p1 p2 : By) (k : Nat) : St :=
  ⟨[(1, Enc.enc seed), (3, Enc.enc l), (4, Enc.enc r), (5, .ptr 0 0), (7, .ptr 1 0), (11, .sl 2 0 k 1), (14, .u32 (rnU k))], [(0, ⟨xmC x, true⟩), (1, ⟨(wsJ ws k).map .u32, true⟩), (2, ⟨rnC p0 p1 p2 k, true⟩)], 3⟩
set_option maxHeartbeats 4000000 in
theorem rNode_fun (x : Xms) (seed : By) (ws : List (BitVec 32)) (l r : By) (hx : xmsT x.code = some x) (hs : seed.length ≤ 100000000) (hw : ws.length = 8) (hl : l.length = x.n.toNat) (hr : r.length = x.n.toNat) :
    Fun Tryz.prog Gs 78 [Enc.enc x, Enc.enc seed, Enc.enc (⟨ws⟩ : Ar (BitVec 32)), Enc.enc l, Enc.enc r] (Enc.ret (nodeS x seed ws l r)) := by
  refine Fun_cc [ctRBytes8, ctRKeyed] mo Tryz.func78 (by decide) cc78 rs78 Tryz.ntmps78 (by simp) ?_
  have hct := ctRBytes8_ok (ctRKeyed_ok (CtOK_nil (P := Tryz.prog) (Gl := Gs)))
  have hn : 0 ≤ x.n ∧ x.n ≤ 32 := by rcases xmsT_n hx with ⟨h, _⟩ | ⟨h, _⟩ <;> omega
  have n3 : BitVec.ofNat 64 (Int.toNat 3) = 3#64 := rfl
  have n1 : BitVec.ofNat 64 (Int.toNat 1) = 1#64 := rfl
  have L : ∀ c : BitVec 32, (ws.set 7 c).length = 8 := fun c => by simp [hw]
  have T : ∀ c : BitVec 32, (ws.set 7 c).take 8 = ws.set 7 c := fun c => List.take_of_length_le (by rw [L]; omega)
  have A : ∀ c : BitVec 32, (adrS (ws.set 7 c)).length = 32 := fun c => by rw [adrS_len, L]
  have p0 := npS_len hx seed ws 0#32
  have p1 := npS_len hx seed ws 1#32
  have p2 := npS_len hx seed ws 2#32
  have q0 : kyS x 3#64 seed (adrS (ws.set 7 0#32)) = npS x seed ws 0#32 := rfl
  have q1 : kyS x 3#64 seed (adrS (ws.set 7 1#32)) = npS x seed ws 1#32 := rfl
  have q2 : kyS x 3#64 seed (adrS (ws.set 7 2#32)) = npS x seed ws 2#32 := rfl
  have q0' : kyS x 3#64 seed (adrS (ws.set 7 (0 : BitVec 32))) = npS x seed ws 0#32 := rfl
  have hnd : nodeS x seed ws l r = kyS x 1#64 (npS x seed ws 0#32) (xorL l (npS x seed ws 1#32) ++ xorL r (npS x seed ws 2#32)) := rfl
  have hkl := nodeS_len hx seed ws l r
  obtain ⟨P0, e0⟩ : ∃ P0, P0 = npS x seed ws 0#32 := ⟨_, rfl⟩
  obtain ⟨P1, e1⟩ : ∃ P1, P1 = npS x seed ws 1#32 := ⟨_, rfl⟩
  obtain ⟨P2, e2⟩ : ∃ P2, P2 = npS x seed ws 2#32 := ⟨_, rfl⟩
  rw [← e0] at p0 q0 q0' hnd
  rw [← e1] at p1 q1 hnd
  rw [← e2] at p2 q2 hnd
  refine AW_run hct 1000 ?_
  simp (maxSteps := 10000000) (disch := omega) only [go_sem, c78, ctRBytes8, ctRKeyed, xmC, hw, reduceIte, seval, -BitVec.isValue, -BitVec.reduceOfNat, -List.reduceReplicate]
  refine AW_loop (σrn x seed ws l r P0 P1 P2) (fun k => k ≤ 3) (fun k => 3 - k) 0 (Nat.zero_le _) (Wk_p [] ?_) fun k hk => ?_
  · simp only [go_sem, σrn, xmC, wsJ, rnC, rnU, reduceIte, seval, -BitVec.isValue, -BitVec.reduceOfNat, -List.reduceReplicate]
    try simp
  · rcases (by omega : k = 0 ∨ k = 1 ∨ k = 2 ∨ k = 3) with rfl | rfl | rfl | rfl
    · refine AW_ct [ctRBytes8, ctRKeyed] (AW_run hct 1000 ?_)
      simp (maxSteps := 10000000) (disch := omega) only [go_sem, σrn, ctRBytes8, ctRKeyed, xmC, hw, wsJ, rnC, rnU, L, T, A, n3, hx, q0, q0', ← List.map_set, List.set_cons_zero, List.set_cons_succ, reduceIte, seval, -BitVec.isValue, -BitVec.reduceOfNat, -List.reduceReplicate]
      refine ⟨1, by omega, Wk_p [(2, 4)] ?_, by omega⟩
      simp only [go_sem, σrn, xmC, wsJ, rnC, rnU, reduceIte, seval, -BitVec.isValue, -BitVec.reduceOfNat, -List.reduceReplicate]
      try simp
    · refine AW_ct [ctRBytes8, ctRKeyed] (AW_run hct 1000 ?_)
      simp (maxSteps := 10000000) (disch := omega) only [go_sem, σrn, ctRBytes8, ctRKeyed, xmC, hw, wsJ, rnC, rnU, L, T, A, n3, hx, q1, ← List.map_set, List.set_set, List.set_cons_zero, List.set_cons_succ, reduceIte, seval, -BitVec.isValue, -BitVec.reduceOfNat, -List.reduceReplicate]
      refine ⟨2, by omega, Wk_p [(2, 4)] ?_, by omega⟩
      simp only [go_sem, σrn, xmC, wsJ, rnC, rnU, reduceIte, seval, -BitVec.isValue, -BitVec.reduceOfNat, -List.reduceReplicate]
      try simp
    · refine AW_ct [ctRBytes8, ctRKeyed] (AW_run hct 1000 ?_)
      simp (maxSteps := 10000000) (disch := omega) only [go_sem, σrn, ctRBytes8, ctRKeyed, xmC, hw, wsJ, rnC, rnU, L, T, A, n3, hx, q2, ← List.map_set, List.set_set, List.set_cons_zero, List.set_cons_succ, reduceIte, seval, -BitVec.isValue, -BitVec.reduceOfNat, -List.reduceReplicate]
      refine ⟨3, by omega, Wk_p [(2, 4)] ?_, by omega⟩
      simp only [go_sem, σrn, xmC, wsJ, rnC, rnU, reduceIte, seval, -BitVec.isValue, -BitVec.reduceOfNat, -List.reduceReplicate]
      try simp
    · have x1 := xorL_len l P1 (by omega)
      have x2 := xorL_len r P2 (by omega)
      have hfl : [xorL l P1, xorL r P2].flatten = xorL l P1 ++ xorL r P2 := by simp
      have hct2 := mark_ok 42 (ctRXor_ok (ctJoin_ok (ctRKeyed_ok (CtOK_nil (P := Tryz.prog) (Gl := Gs)))))
      refine AW_ct _ (AW_run hct2 1000 ?_)
      simp (maxSteps := 10000000) (disch := omega) only [go_sem, σrn, mark, ctRXor, ctJoin, ctRKeyed, xmC, hw, wsJ, rnC, rnU, L, x1, x2, n1, hx, hfl, ← hnd, hl, hr, p0, p1, p2, deL_cons, deL_nil, reduceIte, seval, -BitVec.isValue, -BitVec.reduceOfNat, -List.reduceReplicate]
      try simp
def ctRNode : Nat × (List AV → R) := (78, A5 fun (x : Xms) (seed : By) (a : Ar (BitVec 32)) (l r : By) => (xmsT x.code = some x ∧ seed.length ≤ 100000000 ∧ a.l.length = 8 ∧ l.length = x.n.toNat ∧ r.length = x.n.toNat, Enc.ret (nodeS x seed a.l l r)))
theorem ctRNode_ok {Ct : List (Nat × (List AV → R))} (h : CtOK Tryz.prog Gs Ct) : CtOK Tryz.prog Gs (ctRNode :: Ct) := CtOK_cons (Row5 fun x seed a l r h => rNode_fun x seed a.l l r h.1 h.2.1 h.2.2.1 h.2.2.2.1 h.2.2.2.2) h
end Go.Lv
namespace Go.Lv
open Go Go.Proofs
set_option linter.unusedSimpArgs false
set_option maxRecDepth 100000
@[go_sem] theorem xms_eta' (x : Xms) : Xms.mk x.code x.shake x.n x.h x.len = x := rfl
theorem xmsT_code {c : BitVec 32} {x : Xms} (h : xmsT c = some x) : x.code = c := by
  unfold xmsT at h
  cases e : xmsF c with
  | none => rw [e] at h; cases h
  | some p =>
    rw [e] at h
    simp only [Option.map_some, Option.some.injEq] at h
    subst h; rfl
def setX (c : BitVec 32) : Xms := match xmsT c with
  | some x => x
  | none => ⟨c, false, 24, 1, 51⟩
theorem xSet_fun (c : BitVec 32) : Fun Tryz.prog Gs 16 [Enc.enc c] (Enc.ret (setX c)) := by
  refine Fun_cc [ctXmss 76] mo Tryz.func16 (by decide) cc16 rs16 Tryz.ntmps16 (by simp) ?_
  cases h : xmsT c with
  | none =>
    have hX : xmsR c = .tup [.agg [.u32 0, .b false, .i 0, .i 0, .i 0], .i 60] := by rw [xmsR, h]; rfl
    have hS : setX c = ⟨c, false, 24, 1, 51⟩ := by rw [setX, h]
    rw [hS]
    refine AW_run (ctRXmss_ok CtOK_nil) 1000 ?_
    simp (maxSteps := 10000000) (disch := omega) only [go_sem, c16, ctXmss, hX, reduceIte, seval, -BitVec.isValue, -BitVec.reduceOfNat, -List.reduceReplicate]
    try simp
    try rfl
  | some x =>
    have hX : xmsR c = .tup [.agg [.u32 x.code, .b x.shake, .i x.n, .i x.h, .i x.len], .i 0] := by rw [xmsR, h]; rfl
    have hS : setX c = x := by rw [setX, h]
    rw [hS]
    refine AW_run (ctRXmss_ok CtOK_nil) 1000 ?_
    simp (maxSteps := 10000000) (disch := omega) only [go_sem, c16, ctXmss, hX, reduceIte, seval, -BitVec.isValue, -BitVec.reduceOfNat, -List.reduceReplicate]
    try simp
    try rfl
def ctXSetL : Nat × (List AV → R) := (16, A1 fun c : BitVec 32 => (True, Enc.ret (setX c)))
theorem ctXSetL_ok {Ct : List (Nat × (List AV → R))} (h : CtOK Tryz.prog Gs Ct) : CtOK Tryz.prog Gs (ctXSetL :: Ct) := CtOK_cons (Row1 fun c _ => xSet_fun c) h
def xs49 : Xms := setX 4043309105#32
theorem xs49_ok : xmsT 4043309105#32 = some xs49 ∧ xs49.n = 24 := by decide +kernel
def z24x : By := List.replicate 24 0#8
def ws0x : List (BitVec 32) := [0, 0, 0, 0, 0, 0, 0, 0]
set_option maxHeartbeats 1000000 in
theorem xlive_fun : Fun Tryz.prog Gs 17 [] (.b true) := by
  have hct := ctRXmss_ok (ctXNode_ok (ctRNode_ok (ctEqual_ok (CtOK_nil (P := Tryz.prog) (Gl := Gs)))))
  refine Fun_cc _ mo Tryz.func17 (by decide) cc17 rs17 Tryz.ntmps17 (by simp) (AW_run hct 1000 ?_)
  obtain ⟨h1, h2⟩ := xs49_ok
  have hcode : xs49.code = 4043309105#32 := xmsT_code h1
  have hX : xmsR (4043309105 : BitVec 32) = .tup [.agg [.u32 xs49.code, .b xs49.shake, .i xs49.n, .i xs49.h, .i xs49.len], .i 0] := by rw [xmsR, show xmsT (4043309105 : BitVec 32) = some xs49 from h1]; rfl
  have hX' : xmsR 4043309105#32 = .tup [.agg [.u32 xs49.code, .b xs49.shake, .i xs49.n, .i xs49.h, .i xs49.len], .i 0] := hX
  have hxx : xmsT xs49.code = some xs49 := by rw [hcode]; exact h1
  have m1 : wmayE xs49 [z24x, z24x, z24x] = 0 := by
    rw [wmayE, if_pos hxx, if_pos]
    intro p hp
    simp only [List.mem_cons, List.not_mem_nil, or_false, or_self] at hp
    subst hp; rw [h2]; rfl
  have m2 : wmayE ⟨0, false, 0, 0, 0⟩ [z24x, z24x, z24x] = 60 := by
    rw [wmayE, if_neg (by decide +kernel)]
  have m2' : wmayE ⟨0#32, false, 0, 0, 0⟩ [z24x, z24x, z24x] = 60 := m2
  have v1 : nodV xs49 z24x ws0x z24x z24x = nodeS xs49 z24x ws0x z24x z24x := by rw [nodV, if_pos m1]
  have hg : (nodeS xs49 z24x ws0x z24x z24x).length = 24 := by rw [nodeS_len hxx, h2]; rfl
  have hn24 : xs49.n.toNat = 24 := by rw [h2]; rfl
  have hzr : List.replicate 24 0#8 = z24x := rfl
  have hzr' : List.replicate 24 (0 : BitVec 8) = z24x := rfl
  have htk : List.take 24 z24x = z24x := rfl
  have hz : z24x.length = 24 := rfl
  have hwl : ws0x.length = 8 := rfl
  have hwe : ([.u32 0, .u32 0, .u32 0, .u32 0, .u32 0, .u32 0, .u32 0, .u32 0] : List AV) = ws0x.map .u32 := rfl
  have hwe' : ([.u32 0#32, .u32 0#32, .u32 0#32, .u32 0#32, .u32 0#32, .u32 0#32, .u32 0#32, .u32 0#32] : List AV) = ws0x.map .u32 := rfl
  obtain ⟨g, hgg⟩ : ∃ g, g = nodeS xs49 z24x ws0x z24x z24x := ⟨_, rfl⟩
  rw [← hgg] at v1 hg
  simp (maxSteps := 10000000) (disch := omega) only [go_sem, c17, ctXmss, ctXNode, ctRNode, ctEqual, hX, hX', hzr, hzr', htk, hz, hwl, hwe, hwe', m1, m2, m2', v1, hg, hxx, hn24, ← hgg, reduceIte, seval, -BitVec.isValue, -BitVec.reduceOfNat, -List.reduceReplicate]
  try simp
def ctXlive : Nat × (List AV → R) := (17, A0 (True, .b true))
theorem ctXlive_ok {Ct : List (Nat × (List AV → R))} (h : CtOK Tryz.prog Gs Ct) : CtOK Tryz.prog Gs (ctXlive :: Ct) := CtOK_cons (Row0 fun _ => xlive_fun) h
end Go.Lv
