/- A part of the proof (GG). -/
import Derived.Test.YtjehnljbhmjgoaaGreatDoorGQ
import Derived.Test.YtjehnljbhmjgoaaGreatDoorGK
set_option linter.all false
namespace Go.Lv
open Go Go.Proofs
set_option linter.unusedSimpArgs false
set_option maxRecDepth 100000
def begS (x : Xms) (sk seed : By) (ws : List (BitVec 32)) (c : BitVec 32) : By := kyS x 4#64 sk (seed ++ adrS (withS (ws.set 5 c) 0#32 0#32))
theorem begS_len {x : Xms} (h : xmsT x.code = some x) (sk seed : By) (ws : List (BitVec 32)) (c : BitVec 32) : (begS x sk seed ws c).length = x.n.toNat := kyS_len h _ _ _
set_option maxHeartbeats 2000000 in
theorem begin_fun (x : Xms) (sk seed : By) (ws : List (BitVec 32)) (i : Int) (hx : xmsT x.code = some x) (hs : seed.length ≤ 10000000) (hk : sk.length ≤ 10000000) (hw : ws.length = 8) :
    Fun Tryz.prog Gs 230 [.agg (wayC x seed), Enc.enc sk, Enc.enc (⟨ws⟩ : Ar (BitVec 32)), Enc.enc i] (Enc.ret (begS x sk seed ws (BitVec.ofInt 32 i))) := by
  refine Fun_cc [mark 23, ctWBytes, ctOJoin, ctWPrfKeygen] mo Tryz.func230 (by decide) cc230 rs230 Tryz.ntmps230 (by simp) ?_
  have hct := mark_ok 23 (ctWBytes_ok (ctOJoin_ok (ctWPrfKeygen_ok (CtOK_nil (P := Tryz.prog) (Gl := Gs)))))
  have hws : ((ws.set 5 (BitVec.ofInt 32 i)).set 6 0#32).set 7 0#32 = withS (ws.set 5 (BitVec.ofInt 32 i)) 0#32 0#32 := rfl
  have hws' : ((ws.set 5 (BitVec.ofInt 32 i)).set 6 (0 : BitVec 32)).set 7 (0 : BitVec 32) = withS (ws.set 5 (BitVec.ofInt 32 i)) 0#32 0#32 := rfl
  have hl : (withS (ws.set 5 (BitVec.ofInt 32 i)) 0#32 0#32).length = 8 := by rw [withS_len, List.length_set, hw]
  have ht : (withS (ws.set 5 (BitVec.ofInt 32 i)) 0#32 0#32).take 8 = withS (ws.set 5 (BitVec.ofInt 32 i)) 0#32 0#32 := List.take_of_length_le (by omega)
  have hal : (adrS (withS (ws.set 5 (BitVec.ofInt 32 i)) 0#32 0#32)).length = 32 := by rw [adrS_len, hl]
  have hR : ∀ t, sumR x 4#64 sk t = Enc.ret (kyS x 4#64 sk t) := fun t => by rw [sumR, if_pos hx]
  have hlk : ∀ t, (kyS x 4#64 sk t).length = x.n.toNat := fun t => kyS_len hx 4#64 sk t
  rw [begS]
  obtain ⟨ad, had⟩ : ∃ ad, ad = adrS (withS (ws.set 5 (BitVec.ofInt 32 i)) 0#32 0#32) := ⟨_, rfl⟩
  rw [← had] at hal ⊢
  have hat : ad.take 32 = ad := List.take_of_length_le (by omega)
  have hfl : [seed, ad].flatten = seed ++ ad := by simp
  refine AW_run hct 15 ?_
  simp (maxSteps := 10000000) (disch := omega) only [go_sem, c230, mark, ctWBytes, ctOJoin, ctWPrfKeygen, wayC, xmC, hw, ← List.map_set, hws, hws', hl, ht, ← had, hal, hat, reduceIte, seval, -BitVec.isValue, -BitVec.reduceOfNat, -List.reduceReplicate]
  refine AW_freeze 2 [9] (seg := ⟨ad.map .u8, true⟩) (by simp only [go_sem, hat, reduceIte, seval, -BitVec.isValue, -BitVec.reduceOfNat, -List.reduceReplicate]) rfl (AW_ct [mark 23, ctWBytes, ctOJoin, ctWPrfKeygen] (AW_run hct 1000 ?_))
  simp (maxSteps := 10000000) (disch := omega) only [go_sem, frzF, mark, ctWBytes, ctOJoin, ctWPrfKeygen, hw, hal, hat, hfl, hR, deL_cons, deL_nil, reduceIte, seval, -BitVec.isValue, -BitVec.reduceOfNat, -List.reduceReplicate]
  try simp
def ctBegin1 (x : Xms) (sk seed : By) (ws : List (BitVec 32)) (i : Int) : Nat × (List AV → R) := (230, fun a => (a = [.agg (wayC x seed), Enc.enc sk, Enc.enc (⟨ws⟩ : Ar (BitVec 32)), Enc.enc i], Enc.ret (begS x sk seed ws (BitVec.ofInt 32 i))))
theorem ctBegin1_ok {x : Xms} {sk seed : By} {ws : List (BitVec 32)} {i : Int} (hx : xmsT x.code = some x) (hs : seed.length ≤ 10000000) (hk : sk.length ≤ 10000000) (hw : ws.length = 8) {Ct : List (Nat × (List AV → R))} (h : CtOK Tryz.prog Gs Ct) : CtOK Tryz.prog Gs (ctBegin1 x sk seed ws i :: Ct) := CtOK_cons (fun a e => by
  have e : a = [.agg (wayC x seed), Enc.enc sk, Enc.enc (⟨ws⟩ : Ar (BitVec 32)), Enc.enc i] := e
  subst e; exact begin_fun x sk seed ws i hx hs hk hw) h
end Go.Lv
namespace Go.Lv
open Go Go.Proofs
set_option linter.unusedSimpArgs false
set_option maxRecDepth 100000
def w5 (ws : List (BitVec 32)) (i : Nat) : List (BitVec 32) := ws.set 5 (BitVec.ofInt 32 (i : Int))
def wsK (ws : List (BitVec 32)) : Nat → List (BitVec 32)
  | 0 => ws
  | k + 1 => w5 ws k
theorem wsK_set (ws : List (BitVec 32)) (k : Nat) (c : BitVec 32) : (wsK ws k).set 5 c = ws.set 5 c := by
  cases k with
  | zero => rfl
  | succ k => exact List.set_set ..
theorem wsK_len (ws : List (BitVec 32)) (k : Nat) : (wsK ws k).length = ws.length := by cases k <;> simp [wsK, w5]
theorem begS_set (x : Xms) (sk seed : By) (ws : List (BitVec 32)) (c : BitVec 32) : begS x sk seed (ws.set 5 c) c = begS x sk seed ws c := by simp [begS]
def begK (x : Xms) (sk seed : By) (ws : List (BitVec 32)) (i : Nat) : By := begS x sk seed ws (BitVec.ofInt 32 (i : Int))
def endF (x : Xms) (sk seed : By) (ws : List (BitVec 32)) (d : Nat → Nat) (i : Nat) : By := goS x seed (w5 ws i) 0 (d i) (begK x sk seed ws i)
theorem endF_len {x : Xms} (h : xmsT x.code = some x) (sk seed : By) (ws : List (BitVec 32)) (d : Nat → Nat) (i : Nat) : (endF x sk seed ws d i).length = x.n.toNat :=
  goS_len h _ _ _ _ _ (begS_len h _ _ _ _)
theorem xms_len {x : Xms} (h : xmsT x.code = some x) : 0 ≤ x.n ∧ x.n ≤ 32 ∧ 0 ≤ x.len ∧ x.len ≤ 67 ∧ 51 ≤ x.len := by rcases xmsT_n h with ⟨h, _⟩ | ⟨h, _⟩ <;> omega
def σsg (x : Xms) (sk seed : By) (ws : List (BitVec 32)) (d : Nat → Nat) (nf : Nat) (cs : List AV) (k : Nat) : St :=
  ⟨[(1, Enc.enc sk), (3, .fn (.func nf) [] cs), (4, .ptr 0 0), (6, .ptr 1 0), (9, .sl 2 0 (ends k (endF x sk seed ws d)).length 1), (13, .i x.len), (14, .i k)], [(0, ⟨wayC x seed, true⟩), (1, ⟨(wsK ws k).map .u32, true⟩), (2, ⟨(ends k (endF x sk seed ws d)).map .u8, true⟩)], 3⟩
def ctFar1 (nf : Nat) (cs : List AV) (i : Nat) (v : Nat) : Nat × (List AV → R) := (nf, fun a => (a = Enc.enc (i : Int) :: cs, .i (v : Int)))
theorem ctFar1_ok {nf : Nat} {cs : List AV} {i v : Nat} (hf : Fun Tryz.prog Gs nf (Enc.enc (i : Int) :: cs) (.i (v : Int))) {Ct : List (Nat × (List AV → R))} (h : CtOK Tryz.prog Gs Ct) : CtOK Tryz.prog Gs (ctFar1 nf cs i v :: Ct) := CtOK_cons (fun a e => by
  have e : a = Enc.enc (i : Int) :: cs := e
  subst e; exact hf) h
set_option maxHeartbeats 4000000 in
theorem signedP_fun (x : Xms) (sk seed : By) (ws : List (BitVec 32)) (d : Nat → Nat) (hx : xmsT x.code = some x) (hs : seed.length ≤ 10000000) (hk : sk.length ≤ 10000000) (hw : ws.length = 8)
    (hfar : ∀ i : Nat, (i : Int) < x.len → Fun Tryz.prog Gs 218 [Enc.enc (i : Int)] (.i (d i : Int)) ∧ d i ≤ 15) :
    Fun Tryz.prog Gs 217 [.agg (wayC x seed), Enc.enc sk, Enc.enc (⟨ws⟩ : Ar (BitVec 32)), .fn (.func 218) [] []] (Enc.ret (ends x.len.toNat (endF x sk seed ws d))) := by
  refine Fun_cc [] mo Tryz.func217 (by decide) cc217 rs217 Tryz.ntmps217 (by simp) ?_
  have hxl := xms_len hx
  refine AW_run (CtOK_nil (P := Tryz.prog) (Gl := Gs)) 1000 ?_
  simp (maxSteps := 10000000) (disch := omega) only [go_sem, c217, wayC, xmC, hw, reduceIte, seval, -BitVec.isValue, -BitVec.reduceOfNat, -List.reduceReplicate]
  refine AW_null 9 1 (by simp only [go_sem, reduceIte, seval, -BitVec.isValue, -BitVec.reduceOfNat, -List.reduceReplicate]) ?_
  refine AW_loop (σsg x sk seed ws d 218 []) (fun k => (k : Int) ≤ x.len) (fun k => x.len.toNat - k) 0 (by simp; omega) (Wk_p [] ?_) fun k hk' => ?_
  · simp only [go_sem, σsg, ends_zero, wayC, xmC, wsK, reduceIte, seval, -BitVec.isValue, -BitVec.reduceOfNat, -List.reduceReplicate]
    try simp
  · have hel := ends_len _ (endF_len hx sk seed ws d) k
    have hkl := wsK_len ws k
    rw [hw] at hkl
    by_cases hc : (k : Int) < x.len
    · obtain ⟨hF, hd⟩ := hfar k hc
      have h5 := wsK_set ws k (BitVec.ofInt 32 (k : Int))
      have hbl : (begK x sk seed ws k).length = x.n.toNat := begS_len hx sk seed ws (BitVec.ofInt 32 (k : Int))
      have hb5 := begS_set x sk seed ws (BitVec.ofInt 32 (k : Int))
      have hw5 : (w5 ws k).length = 8 := by simp [w5, hw]
      have e5 : ws.set 5 (BitVec.ofInt 32 (k : Int)) = w5 ws k := rfl
      have t5 : (w5 ws k).take 8 = w5 ws k := List.take_of_length_le (by omega)
      have hbk : begS x sk seed ws (BitVec.ofInt 32 (k : Int)) = begK x sk seed ws k := rfl
      rw [e5] at h5 hb5
      rw [hbk] at hb5
      have hmul : k * x.n.toNat ≤ 67 * 32 := Nat.mul_le_mul (by omega) (by omega)
      have hel1 := endF_len hx sk seed ws d k
      have hed : goS x seed (w5 ws k) 0 (d k) (begK x sk seed ws k) = endF x sk seed ws d k := rfl
      have hct := ctFar1_ok (cs := []) hF (ctBegin1_ok (x := x) (sk := sk) (seed := seed) (ws := w5 ws k) (i := (k : Int)) hx hs hk hw5 (ctSteps1_ok (x := x) (seed := seed) (ws := w5 ws k) (b := begK x sk seed ws k) (f := 0) (k := d k) hx (by omega) hw5 hbl (by omega) (CtOK_nil (P := Tryz.prog) (Gl := Gs))))
      have e0 : ((0 + d k : Nat) : Int) = (d k : Int) := by omega
      refine AW_ct _ (AW_run hct 1000 ?_)
      simp (maxSteps := 10000000) (disch := omega) only [go_sem, σsg, ctFar1, ctBegin1, ctSteps1, wayC, xmC, hw, hc, hkl, hw5, t5, h5, hb5, hed, e0, hel, hel1, reduceIte, seval, -BitVec.isValue, -BitVec.reduceOfNat, -List.reduceReplicate]
      refine ⟨k + 1, by omega, Wk_p [(2, 3)] ?_, by omega⟩
      simp only [go_sem, σsg, wayC, xmC, reduceIte, seval, -BitVec.isValue, -BitVec.reduceOfNat, -List.reduceReplicate]
      simp [ends_succ, hel, hel1, wsK]
    · have hge : k = x.len.toNat := by omega
      have hmul : k * x.n.toNat ≤ 67 * 32 := Nat.mul_le_mul (by omega) (by omega)
      have hej : (ends k (endF x sk seed ws d)).take (k * x.n.toNat) = ends k (endF x sk seed ws d) := List.take_of_length_le (by omega)
      rw [← hge]
      refine AW_run (CtOK_nil (P := Tryz.prog) (Gl := Gs)) 1000 ?_
      simp (maxSteps := 10000000) (disch := omega) only [go_sem, σsg, wayC, xmC, hw, hc, hel, hej, reduceIte, seval, -BitVec.isValue, -BitVec.reduceOfNat, -List.reduceReplicate]
      try simp
end Go.Lv
namespace Go.Lv
open Go Go.Proofs
set_option linter.unusedSimpArgs false
set_option maxRecDepth 100000
theorem public1_fun (i : Int) : Fun Tryz.prog Gs 218 [Enc.enc i] (.i 15) := by
  refine Fun_cc [] mo Tryz.func218 (by decide) cc218 rs218 Tryz.ntmps218 (by simp) ?_
  refine AW_run CtOK_nil 1000 ?_
  simp (maxSteps := 10000000) (disch := omega) only [go_sem, c218, reduceIte, seval, -BitVec.isValue, -BitVec.reduceOfNat, -List.reduceReplicate]
def pubN : Nat → Nat := fun _ => 15
def wpubV (x : Xms) (sk seed : By) (ws : List (BitVec 32)) : By := if wmayE x [sk, seed] = 0 then ends x.len.toNat (endF x sk seed ws pubN) else []
set_option maxHeartbeats 2000000 in
theorem WPublic_fun (x : Xms) (sk seed : By) (ws : List (BitVec 32)) (hb : sk.length ≤ 100000000) (hs : seed.length ≤ 100000000) (hw : ws.length = 8) :
    Fun Tryz.prog Gs 199 [Enc.enc x, Enc.enc sk, Enc.enc seed, Enc.enc (⟨ws⟩ : Ar (BitVec 32))] (.tup [Enc.ret (wpubV x sk seed ws), .i (wmayE x [sk, seed])]) := by
  have hbb := bb2 sk seed (by omega) (by omega)
  have hwt : ws.take 8 = ws := List.take_of_length_le (by omega)
  by_cases h : wmayE x [sk, seed] = 0
  · obtain ⟨hx, hp⟩ := wmayE_zero h
    have h1 := hp sk (by simp)
    have h2 := hp seed (by simp)
    have hx32 := xms_len hx
    rw [wpubV, if_pos h, h]
    have hS := signedP_fun x sk seed ws pubN hx (by omega) (by omega) hw fun i _ => ⟨public1_fun (i : Int), Nat.le_refl 15⟩
    have hct := mark_ok 14 (ctWmay_ok (ctAlong1_ok (seed := seed) hx (CtOK_cons (n := 217) (f := fun a => (a = [.agg (wayC x seed), Enc.enc sk, Enc.enc (⟨ws⟩ : Ar (BitVec 32)), .fn (.func 218) [] []], Enc.ret (ends x.len.toNat (endF x sk seed ws pubN)))) (fun a e => by
      have e : a = [.agg (wayC x seed), Enc.enc sk, Enc.enc (⟨ws⟩ : Ar (BitVec 32)), .fn (.func 218) [] []] := e
      subst e; exact hS) (CtOK_nil (P := Tryz.prog) (Gl := Gs)))))
    refine Fun_cc _ mo Tryz.func199 (by decide) cc199 rs199 Tryz.ntmps199 (by simp) (AW_run hct 1000 ?_)
    simp (maxSteps := 10000000) (disch := omega) only [go_sem, c199, mark, ctWmay, ctAlong1, wayR, wayC, kfn, xmC, h, hbb, hw, hwt, deL_cons, deL_nil, reduceIte, seval, -BitVec.isValue, -BitVec.reduceOfNat, -List.reduceReplicate]
    try simp
  · rw [wpubV, if_neg h]
    obtain ⟨e, he⟩ : ∃ e, e = wmayE x [sk, seed] := ⟨_, rfl⟩
    rw [← he] at h ⊢
    refine Fun_cc [mark 14, ctWmay] mo Tryz.func199 (by decide) cc199 rs199 Tryz.ntmps199 (by simp) ?_
    refine AW_run (mark_ok 14 (ctWmay_ok CtOK_nil)) 1000 ?_
    simp (maxSteps := 10000000) (disch := omega) only [go_sem, c199, mark, ctWmay, ← he, eq_false h, hbb, hw, deL_cons, deL_nil, reduceIte, seval, -BitVec.isValue, -BitVec.reduceOfNat, -List.reduceReplicate]
    try simp
def ctWPublic : Nat × (List AV → R) := (199, A4 fun (x : Xms) (sk seed : By) (a : Ar (BitVec 32)) => (sk.length ≤ 100000000 ∧ seed.length ≤ 100000000 ∧ a.l.length = 8, .tup [Enc.ret (wpubV x sk seed a.l), .i (wmayE x [sk, seed])]))
theorem ctWPublic_ok {Ct : List (Nat × (List AV → R))} (h : CtOK Tryz.prog Gs Ct) : CtOK Tryz.prog Gs (ctWPublic :: Ct) := CtOK_cons (Row4 fun x sk seed a h => WPublic_fun x sk seed a.l h.1 h.2.1 h.2.2) h
end Go.Lv
namespace Go.Lv
open Go Go.Proofs
set_option linter.unusedSimpArgs false
set_option maxRecDepth 100000
end Go.Lv
namespace Go.Lv
open Go Go.Proofs
set_option linter.unusedSimpArgs false
set_option maxRecDepth 100000
end Go.Lv
namespace Go.Lv
open Go Go.Proofs
set_option linter.unusedSimpArgs false
set_option maxRecDepth 100000
end Go.Lv
namespace Go.Lv
open Go Go.Proofs
set_option linter.unusedSimpArgs false
set_option maxRecDepth 100000
end Go.Lv
