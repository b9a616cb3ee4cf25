/- A part of the proof. -/
import Derived.Test.YtmpfooekljbhhaaDoorGQ
import Derived.Test.YtmpfooekljbhhaaDoorGK
set_option linter.all false
namespace Go.Lv
open Go Go.Proofs
set_option linter.unusedSimpArgs false
set_option maxRecDepth 100000

/-! ## Where a chain begins -/
def begS (x : Xms) (sk seed : By) (ws : List (BitVec 32)) (c : BitVec 32) : By := kyS x 4#64 sk (seed ++ adrS (withS (ws.set 5 c) 0#32 0#32))
theorem begS_len {x : Xms} (h : xmsT x.code = some x) (sk seed : By) (ws : List (BitVec 32)) (c : BitVec 32) : (begS x sk seed ws c).length = x.n.toNat := kyS_len h _ _ _
set_option maxHeartbeats 2000000 in
theorem begin_fun (x : Xms) (sk seed : By) (ws : List (BitVec 32)) (i : Int) (hx : xmsT x.code = some x) (hs : seed.length ≤ 10000000) (hk : sk.length ≤ 10000000) (hw : ws.length = 8) :
    Fun Tryd.prog Gs 69 [.agg (wayC x seed), Enc.enc sk, Enc.enc (⟨ws⟩ : Ar (BitVec 32)), Enc.enc i] (Enc.ret (begS x sk seed ws (BitVec.ofInt 32 i))) := by
  refine Fun_cc [mark 23, ctWBytes, ctOJoin, ctWPrfKeygen] mo Tryd.func69 (by decide) cc69 rs69 Tryd.ntmps69 (by simp) ?_
  have hct := mark_ok 23 (ctWBytes_ok (ctOJoin_ok (ctWPrfKeygen_ok (CtOK_nil (P := Tryd.prog) (Gl := Gs)))))
  have hws : ((ws.set 5 (BitVec.ofInt 32 i)).set 6 0#32).set 7 0#32 = withS (ws.set 5 (BitVec.ofInt 32 i)) 0#32 0#32 := rfl
  have hws' : ((ws.set 5 (BitVec.ofInt 32 i)).set 6 (0 : BitVec 32)).set 7 (0 : BitVec 32) = withS (ws.set 5 (BitVec.ofInt 32 i)) 0#32 0#32 := rfl
  have hl : (withS (ws.set 5 (BitVec.ofInt 32 i)) 0#32 0#32).length = 8 := by rw [withS_len, List.length_set, hw]
  have ht : (withS (ws.set 5 (BitVec.ofInt 32 i)) 0#32 0#32).take 8 = withS (ws.set 5 (BitVec.ofInt 32 i)) 0#32 0#32 := List.take_of_length_le (by omega)
  have hal : (adrS (withS (ws.set 5 (BitVec.ofInt 32 i)) 0#32 0#32)).length = 32 := by rw [adrS_len, hl]
  have hR : ∀ t, sumR x 4#64 sk t = Enc.ret (kyS x 4#64 sk t) := fun t => by rw [sumR, if_pos hx]
  have hlk : ∀ t, (kyS x 4#64 sk t).length = x.n.toNat := fun t => kyS_len hx 4#64 sk t
  rw [begS]
  obtain ⟨ad, had⟩ : ∃ ad, ad = adrS (withS (ws.set 5 (BitVec.ofInt 32 i)) 0#32 0#32) := ⟨_, rfl⟩
  rw [← had] at hal ⊢
  have hat : ad.take 32 = ad := List.take_of_length_le (by omega)
  have hfl : [seed, ad].flatten = seed ++ ad := by simp
  refine AW_run hct 15 ?_
  simp (maxSteps := 10000000) (disch := omega) only [go_sem, c69, mark, ctWBytes, ctOJoin, ctWPrfKeygen, wayC, xmC, hw, ← List.map_set, hws, hws', hl, ht, ← had, hal, hat, reduceIte, seval, -BitVec.isValue, -BitVec.reduceOfNat, -List.reduceReplicate]
  refine AW_freeze 2 [9] (seg := ⟨ad.map .u8, true⟩) (by simp only [go_sem, hat, reduceIte, seval, -BitVec.isValue, -BitVec.reduceOfNat, -List.reduceReplicate]) rfl (AW_ct [mark 23, ctWBytes, ctOJoin, ctWPrfKeygen] (AW_run hct 1000 ?_))
  simp (maxSteps := 10000000) (disch := omega) only [go_sem, frzF, mark, ctWBytes, ctOJoin, ctWPrfKeygen, hw, hal, hat, hfl, hR, deL_cons, deL_nil, reduceIte, seval, -BitVec.isValue, -BitVec.reduceOfNat, -List.reduceReplicate]
  try simp
def ctBegin1 (x : Xms) (sk seed : By) (ws : List (BitVec 32)) (i : Int) : Nat × (List AV → R) := (69, fun a => (a = [.agg (wayC x seed), Enc.enc sk, Enc.enc (⟨ws⟩ : Ar (BitVec 32)), Enc.enc i], Enc.ret (begS x sk seed ws (BitVec.ofInt 32 i))))
theorem ctBegin1_ok {x : Xms} {sk seed : By} {ws : List (BitVec 32)} {i : Int} (hx : xmsT x.code = some x) (hs : seed.length ≤ 10000000) (hk : sk.length ≤ 10000000) (hw : ws.length = 8) {Ct : List (Nat × (List AV → R))} (h : CtOK Tryd.prog Gs Ct) : CtOK Tryd.prog Gs (ctBegin1 x sk seed ws i :: Ct) := CtOK_cons (fun a e => by
  have e : a = [.agg (wayC x seed), Enc.enc sk, Enc.enc (⟨ws⟩ : Ar (BitVec 32)), Enc.enc i] := e
  subst e; exact begin_fun x sk seed ws i hx hs hk hw) h
def wsecE (x : Xms) (sk seed : By) (i : Int) : Int := if wmayE x [sk, seed] = 0 then (if i < 0 ∨ x.len ≤ i then 1 else 0) else wmayE x [sk, seed]
def wsecR (x : Xms) (sk seed : By) (ws : List (BitVec 32)) (i : Int) : AV := if wsecE x sk seed i = 0 then .tup [Enc.ret (begS x sk seed ws (BitVec.ofInt 32 i)), .i 0] else .tup [.ros true 0 [], .i (wsecE x sk seed i)]
set_option maxHeartbeats 2000000 in
theorem WSecret_fun (x : Xms) (sk seed : By) (ws : List (BitVec 32)) (i : Int) (hb : sk.length ≤ 100000000) (hs : seed.length ≤ 100000000) (hw : ws.length = 8) :
    Fun Tryd.prog Gs 39 [Enc.enc x, Enc.enc sk, Enc.enc seed, Enc.enc (⟨ws⟩ : Ar (BitVec 32)), Enc.enc i] (wsecR x sk seed ws i) := by
  have hbb := bb2 sk seed (by omega) (by omega)
  have hwt : ws.take 8 = ws := List.take_of_length_le (by omega)
  by_cases h : wmayE x [sk, seed] = 0
  · obtain ⟨hx, hp⟩ := wmayE_zero h
    have h1 := hp sk (by simp)
    have h2 := hp seed (by simp)
    have hx32 : 0 ≤ x.n ∧ x.n ≤ 32 := by rcases xmsT_n hx with ⟨h, _⟩ | ⟨h, _⟩ <;> omega
    by_cases c1 : i < 0
    · have hE : wsecE x sk seed i = 1 := by rw [wsecE, if_pos h, if_pos (by omega)]
      rw [wsecR, hE, if_neg (by decide)]
      refine Fun_cc [mark 16, ctWmay] mo Tryd.func39 (by decide) cc39 rs39 Tryd.ntmps39 (by simp) ?_
      refine AW_run (mark_ok 16 (ctWmay_ok CtOK_nil)) 1000 ?_
      simp (maxSteps := 10000000) (disch := omega) only [go_sem, c39, mark, ctWmay, h, hbb, hw, c1, deL_cons, deL_nil, reduceIte, seval, -BitVec.isValue, -BitVec.reduceOfNat, -List.reduceReplicate]
      try simp
    by_cases c2 : x.len ≤ i
    · have hE : wsecE x sk seed i = 1 := by rw [wsecE, if_pos h, if_pos (by omega)]
      rw [wsecR, hE, if_neg (by decide)]
      refine Fun_cc [mark 16, ctWmay] mo Tryd.func39 (by decide) cc39 rs39 Tryd.ntmps39 (by simp) ?_
      refine AW_run (mark_ok 16 (ctWmay_ok CtOK_nil)) 1000 ?_
      simp (maxSteps := 10000000) (disch := omega) only [go_sem, c39, mark, ctWmay, h, hbb, hw, c1, c2, deL_cons, deL_nil, reduceIte, seval, -BitVec.isValue, -BitVec.reduceOfNat, -List.reduceReplicate]
      try simp
    have hE : wsecE x sk seed i = 0 := by rw [wsecE, if_pos h, if_neg (by omega)]
    rw [wsecR, if_pos hE]
    have hct := mark_ok 16 (ctWmay_ok (ctAlong1_ok (seed := seed) hx (ctBegin1_ok (x := x) (sk := sk) (seed := seed) (ws := ws) (i := i) hx (by omega) (by omega) hw (CtOK_nil (P := Tryd.prog) (Gl := Gs)))))
    refine Fun_cc _ mo Tryd.func39 (by decide) cc39 rs39 Tryd.ntmps39 (by simp) (AW_run hct 1000 ?_)
    simp (maxSteps := 10000000) (disch := omega) only [go_sem, c39, mark, ctWmay, ctAlong1, ctBegin1, wayR, wayC, kfn, xmC, h, hbb, hw, hwt, c1, c2, deL_cons, deL_nil, reduceIte, seval, -BitVec.isValue, -BitVec.reduceOfNat, -List.reduceReplicate]
    try simp
  · have hE : wsecE x sk seed i = wmayE x [sk, seed] := by rw [wsecE, if_neg h]
    rw [wsecR, hE, if_neg h]
    obtain ⟨e, he⟩ : ∃ e, e = wmayE x [sk, seed] := ⟨_, rfl⟩
    rw [← he] at h ⊢
    refine Fun_cc [mark 16, ctWmay] mo Tryd.func39 (by decide) cc39 rs39 Tryd.ntmps39 (by simp) ?_
    refine AW_run (mark_ok 16 (ctWmay_ok CtOK_nil)) 1000 ?_
    simp (maxSteps := 10000000) (disch := omega) only [go_sem, c39, mark, ctWmay, ← he, eq_false h, hbb, hw, deL_cons, deL_nil, reduceIte, seval, -BitVec.isValue, -BitVec.reduceOfNat, -List.reduceReplicate]
    try simp
def ctWSecret : Nat × (List AV → R) := (39, A5 fun (x : Xms) (sk seed : By) (a : Ar (BitVec 32)) (i : Int) => (sk.length ≤ 100000000 ∧ seed.length ≤ 100000000 ∧ a.l.length = 8, wsecR x sk seed a.l i))
theorem ctWSecret_ok {Ct : List (Nat × (List AV → R))} (h : CtOK Tryd.prog Gs Ct) : CtOK Tryd.prog Gs (ctWSecret :: Ct) := CtOK_cons (Row5 fun x sk seed a i h => WSecret_fun x sk seed a.l i h.1 h.2.1 h.2.2) h
end Go.Lv
