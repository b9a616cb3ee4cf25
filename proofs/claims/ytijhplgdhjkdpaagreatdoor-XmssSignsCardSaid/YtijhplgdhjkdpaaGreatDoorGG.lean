/- A part of the proof (GG). -/
import Derived.Test.YtijhplgdhjkdpaaGreatDoorGQ
import Derived.Test.YtijhplgdhjkdpaaGreatDoorGK
set_option linter.all false
namespace Go.Lv
open Go Go.Proofs
set_option linter.unusedSimpArgs false
set_option maxRecDepth 100000

/-! ## Where a chain begins -/
def begS (x : Xms) (sk seed : By) (ws : List (BitVec 32)) (c : BitVec 32) : By := kyS x 4#64 sk (seed ++ adrS (withS (ws.set 5 c) 0#32 0#32))
theorem begS_len {x : Xms} (h : xmsT x.code = some x) (sk seed : By) (ws : List (BitVec 32)) (c : BitVec 32) : (begS x sk seed ws c).length = x.n.toNat := kyS_len h _ _ _
set_option maxHeartbeats 2000000 in
theorem begin_fun (x : Xms) (sk seed : By) (ws : List (BitVec 32)) (i : Int) (hx : xmsT x.code = some x) (hs : seed.length ≤ 10000000) (hk : sk.length ≤ 10000000) (hw : ws.length = 8) :
    Fun Tryz.prog Gs 112 [.agg (wayC x seed), Enc.enc sk, Enc.enc (⟨ws⟩ : Ar (BitVec 32)), Enc.enc i] (Enc.ret (begS x sk seed ws (BitVec.ofInt 32 i))) := by
  refine Fun_cc [mark 23, ctWBytes, ctOJoin, ctWPrfKeygen] mo Tryz.func112 (by decide) cc112 rs112 Tryz.ntmps112 (by simp) ?_
  have hct := mark_ok 23 (ctWBytes_ok (ctOJoin_ok (ctWPrfKeygen_ok (CtOK_nil (P := Tryz.prog) (Gl := Gs)))))
  have hws : ((ws.set 5 (BitVec.ofInt 32 i)).set 6 0#32).set 7 0#32 = withS (ws.set 5 (BitVec.ofInt 32 i)) 0#32 0#32 := rfl
  have hws' : ((ws.set 5 (BitVec.ofInt 32 i)).set 6 (0 : BitVec 32)).set 7 (0 : BitVec 32) = withS (ws.set 5 (BitVec.ofInt 32 i)) 0#32 0#32 := rfl
  have hl : (withS (ws.set 5 (BitVec.ofInt 32 i)) 0#32 0#32).length = 8 := by rw [withS_len, List.length_set, hw]
  have ht : (withS (ws.set 5 (BitVec.ofInt 32 i)) 0#32 0#32).take 8 = withS (ws.set 5 (BitVec.ofInt 32 i)) 0#32 0#32 := List.take_of_length_le (by omega)
  have hal : (adrS (withS (ws.set 5 (BitVec.ofInt 32 i)) 0#32 0#32)).length = 32 := by rw [adrS_len, hl]
  have hR : ∀ t, sumR x 4#64 sk t = Enc.ret (kyS x 4#64 sk t) := fun t => by rw [sumR, if_pos hx]
  have hlk : ∀ t, (kyS x 4#64 sk t).length = x.n.toNat := fun t => kyS_len hx 4#64 sk t
  rw [begS]
  obtain ⟨ad, had⟩ : ∃ ad, ad = adrS (withS (ws.set 5 (BitVec.ofInt 32 i)) 0#32 0#32) := ⟨_, rfl⟩
  rw [← had] at hal ⊢
  have hat : ad.take 32 = ad := List.take_of_length_le (by omega)
  have hfl : [seed, ad].flatten = seed ++ ad := by simp
  refine AW_run hct 15 ?_
  simp (maxSteps := 10000000) (disch := omega) only [go_sem, c112, mark, ctWBytes, ctOJoin, ctWPrfKeygen, wayC, xmC, hw, ← List.map_set, hws, hws', hl, ht, ← had, hal, hat, reduceIte, seval, -BitVec.isValue, -BitVec.reduceOfNat, -List.reduceReplicate]
  refine AW_freeze 2 [9] (seg := ⟨ad.map .u8, true⟩) (by simp only [go_sem, hat, reduceIte, seval, -BitVec.isValue, -BitVec.reduceOfNat, -List.reduceReplicate]) rfl (AW_ct [mark 23, ctWBytes, ctOJoin, ctWPrfKeygen] (AW_run hct 1000 ?_))
  simp (maxSteps := 10000000) (disch := omega) only [go_sem, frzF, mark, ctWBytes, ctOJoin, ctWPrfKeygen, hw, hal, hat, hfl, hR, deL_cons, deL_nil, reduceIte, seval, -BitVec.isValue, -BitVec.reduceOfNat, -List.reduceReplicate]
  try simp
def ctBegin1 (x : Xms) (sk seed : By) (ws : List (BitVec 32)) (i : Int) : Nat × (List AV → R) := (112, fun a => (a = [.agg (wayC x seed), Enc.enc sk, Enc.enc (⟨ws⟩ : Ar (BitVec 32)), Enc.enc i], Enc.ret (begS x sk seed ws (BitVec.ofInt 32 i))))
theorem ctBegin1_ok {x : Xms} {sk seed : By} {ws : List (BitVec 32)} {i : Int} (hx : xmsT x.code = some x) (hs : seed.length ≤ 10000000) (hk : sk.length ≤ 10000000) (hw : ws.length = 8) {Ct : List (Nat × (List AV → R))} (h : CtOK Tryz.prog Gs Ct) : CtOK Tryz.prog Gs (ctBegin1 x sk seed ws i :: Ct) := CtOK_cons (fun a e => by
  have e : a = [.agg (wayC x seed), Enc.enc sk, Enc.enc (⟨ws⟩ : Ar (BitVec 32)), Enc.enc i] := e
  subst e; exact begin_fun x sk seed ws i hx hs hk hw) h
def wsecE (x : Xms) (sk seed : By) (i : Int) : Int := if wmayE x [sk, seed] = 0 then (if i < 0 ∨ x.len ≤ i then 1 else 0) else wmayE x [sk, seed]
def wsecR (x : Xms) (sk seed : By) (ws : List (BitVec 32)) (i : Int) : AV := if wsecE x sk seed i = 0 then .tup [Enc.ret (begS x sk seed ws (BitVec.ofInt 32 i)), .i 0] else .tup [.ros true 0 [], .i (wsecE x sk seed i)]
end Go.Lv

namespace Go.Lv
open Go Go.Proofs
set_option linter.unusedSimpArgs false
set_option maxRecDepth 100000

/-! ## All chains -/
def w5 (ws : List (BitVec 32)) (i : Nat) : List (BitVec 32) := ws.set 5 (BitVec.ofInt 32 (i : Int))
def wsK (ws : List (BitVec 32)) : Nat → List (BitVec 32)
  | 0 => ws
  | k + 1 => w5 ws k
theorem wsK_set (ws : List (BitVec 32)) (k : Nat) (c : BitVec 32) : (wsK ws k).set 5 c = ws.set 5 c := by
  cases k with
  | zero => rfl
  | succ k => exact List.set_set ..
theorem wsK_len (ws : List (BitVec 32)) (k : Nat) : (wsK ws k).length = ws.length := by cases k <;> simp [wsK, w5]
theorem begS_set (x : Xms) (sk seed : By) (ws : List (BitVec 32)) (c : BitVec 32) : begS x sk seed (ws.set 5 c) c = begS x sk seed ws c := by simp [begS]
def begK (x : Xms) (sk seed : By) (ws : List (BitVec 32)) (i : Nat) : By := begS x sk seed ws (BitVec.ofInt 32 (i : Int))
def endF (x : Xms) (sk seed : By) (ws : List (BitVec 32)) (d : Nat → Nat) (i : Nat) : By := goS x seed (w5 ws i) 0 (d i) (begK x sk seed ws i)
theorem endF_len {x : Xms} (h : xmsT x.code = some x) (sk seed : By) (ws : List (BitVec 32)) (d : Nat → Nat) (i : Nat) : (endF x sk seed ws d i).length = x.n.toNat :=
  goS_len h _ _ _ _ _ (begS_len h _ _ _ _)
theorem xms_len {x : Xms} (h : xmsT x.code = some x) : 0 ≤ x.n ∧ x.n ≤ 32 ∧ 0 ≤ x.len ∧ x.len ≤ 67 ∧ 51 ≤ x.len := by rcases xmsT_n h with ⟨h, _⟩ | ⟨h, _⟩ <;> omega
def σsg (x : Xms) (sk seed : By) (ws : List (BitVec 32)) (d : Nat → Nat) (nf : Nat) (cs : List AV) (k : Nat) : St :=
  ⟨[(1, Enc.enc sk), (3, .fn (.func nf) [] cs), (4, .ptr 0 0), (6, .ptr 1 0), (9, .sl 2 0 (ends k (endF x sk seed ws d)).length 1), (13, .i x.len), (14, .i k)], [(0, ⟨wayC x seed, true⟩), (1, ⟨(wsK ws k).map .u32, true⟩), (2, ⟨(ends k (endF x sk seed ws d)).map .u8, true⟩)], 3⟩
def ctFar1 (nf : Nat) (cs : List AV) (i : Nat) (v : Nat) : Nat × (List AV → R) := (nf, fun a => (a = Enc.enc (i : Int) :: cs, .i (v : Int)))
theorem ctFar1_ok {nf : Nat} {cs : List AV} {i v : Nat} (hf : Fun Tryz.prog Gs nf (Enc.enc (i : Int) :: cs) (.i (v : Int))) {Ct : List (Nat × (List AV → R))} (h : CtOK Tryz.prog Gs Ct) : CtOK Tryz.prog Gs (ctFar1 nf cs i v :: Ct) := CtOK_cons (fun a e => by
  have e : a = Enc.enc (i : Int) :: cs := e
  subst e; exact hf) h
set_option maxHeartbeats 4000000 in
theorem signedP_fun (x : Xms) (sk seed : By) (ws : List (BitVec 32)) (d : Nat → Nat) (hx : xmsT x.code = some x) (hs : seed.length ≤ 10000000) (hk : sk.length ≤ 10000000) (hw : ws.length = 8)
    (hfar : ∀ i : Nat, (i : Int) < x.len → Fun Tryz.prog Gs 107 [Enc.enc (i : Int)] (.i (d i : Int)) ∧ d i ≤ 15) :
    Fun Tryz.prog Gs 94 [.agg (wayC x seed), Enc.enc sk, Enc.enc (⟨ws⟩ : Ar (BitVec 32)), .fn (.func 107) [] []] (Enc.ret (ends x.len.toNat (endF x sk seed ws d))) := by
  refine Fun_cc [] mo Tryz.func94 (by decide) cc94 rs94 Tryz.ntmps94 (by simp) ?_
  have hxl := xms_len hx
  refine AW_run (CtOK_nil (P := Tryz.prog) (Gl := Gs)) 1000 ?_
  simp (maxSteps := 10000000) (disch := omega) only [go_sem, c94, wayC, xmC, hw, reduceIte, seval, -BitVec.isValue, -BitVec.reduceOfNat, -List.reduceReplicate]
  refine AW_null 9 1 (by simp only [go_sem, reduceIte, seval, -BitVec.isValue, -BitVec.reduceOfNat, -List.reduceReplicate]) ?_
  refine AW_loop (σsg x sk seed ws d 107 []) (fun k => (k : Int) ≤ x.len) (fun k => x.len.toNat - k) 0 (by simp; omega) (Wk_p [] ?_) fun k hk' => ?_
  · simp only [go_sem, σsg, ends_zero, wayC, xmC, wsK, reduceIte, seval, -BitVec.isValue, -BitVec.reduceOfNat, -List.reduceReplicate]
    try simp
  · have hel := ends_len _ (endF_len hx sk seed ws d) k
    have hkl := wsK_len ws k
    rw [hw] at hkl
    by_cases hc : (k : Int) < x.len
    · obtain ⟨hF, hd⟩ := hfar k hc
      have h5 := wsK_set ws k (BitVec.ofInt 32 (k : Int))
      have hbl : (begK x sk seed ws k).length = x.n.toNat := begS_len hx sk seed ws (BitVec.ofInt 32 (k : Int))
      have hb5 := begS_set x sk seed ws (BitVec.ofInt 32 (k : Int))
      have hw5 : (w5 ws k).length = 8 := by simp [w5, hw]
      have e5 : ws.set 5 (BitVec.ofInt 32 (k : Int)) = w5 ws k := rfl
      have t5 : (w5 ws k).take 8 = w5 ws k := List.take_of_length_le (by omega)
      have hbk : begS x sk seed ws (BitVec.ofInt 32 (k : Int)) = begK x sk seed ws k := rfl
      rw [e5] at h5 hb5
      rw [hbk] at hb5
      have hmul : k * x.n.toNat ≤ 67 * 32 := Nat.mul_le_mul (by omega) (by omega)
      have hel1 := endF_len hx sk seed ws d k
      have hed : goS x seed (w5 ws k) 0 (d k) (begK x sk seed ws k) = endF x sk seed ws d k := rfl
      have hct := ctFar1_ok (cs := []) hF (ctBegin1_ok (x := x) (sk := sk) (seed := seed) (ws := w5 ws k) (i := (k : Int)) hx hs hk hw5 (ctSteps1_ok (x := x) (seed := seed) (ws := w5 ws k) (b := begK x sk seed ws k) (f := 0) (k := d k) hx (by omega) hw5 hbl (by omega) (CtOK_nil (P := Tryz.prog) (Gl := Gs))))
      have e0 : ((0 + d k : Nat) : Int) = (d k : Int) := by omega
      refine AW_ct _ (AW_run hct 1000 ?_)
      simp (maxSteps := 10000000) (disch := omega) only [go_sem, σsg, ctFar1, ctBegin1, ctSteps1, wayC, xmC, hw, hc, hkl, hw5, t5, h5, hb5, hed, e0, hel, hel1, reduceIte, seval, -BitVec.isValue, -BitVec.reduceOfNat, -List.reduceReplicate]
      refine ⟨k + 1, by omega, Wk_p [(2, 3)] ?_, by omega⟩
      simp only [go_sem, σsg, wayC, xmC, reduceIte, seval, -BitVec.isValue, -BitVec.reduceOfNat, -List.reduceReplicate]
      simp [ends_succ, hel, hel1, wsK]
    · have hge : k = x.len.toNat := by omega
      have hmul : k * x.n.toNat ≤ 67 * 32 := Nat.mul_le_mul (by omega) (by omega)
      have hej : (ends k (endF x sk seed ws d)).take (k * x.n.toNat) = ends k (endF x sk seed ws d) := List.take_of_length_le (by omega)
      rw [← hge]
      refine AW_run (CtOK_nil (P := Tryz.prog) (Gl := Gs)) 1000 ?_
      simp (maxSteps := 10000000) (disch := omega) only [go_sem, σsg, wayC, xmC, hw, hc, hel, hej, reduceIte, seval, -BitVec.isValue, -BitVec.reduceOfNat, -List.reduceReplicate]
      try simp
end Go.Lv

namespace Go.Lv
open Go Go.Proofs
set_option linter.unusedSimpArgs false
set_option maxRecDepth 100000

/-! ## Digits, one by one -/
theorem dgS_le : ∀ (m : By) (i : Nat), 0 ≤ (dgS m).getD i 0 ∧ (dgS m).getD i 0 ≤ 15
  | [], i => by simp [dgS]
  | b :: m, i => by
    have h1 := hiS_le b
    have h2 := loS_le b
    simp only [dgS, List.flatMap_cons, List.cons_append, List.nil_append]
    match i with
    | 0 => simpa using h1
    | 1 => simpa using h2
    | i + 2 => simpa [dgS] using dgS_le m i
theorem digsS_le (m : By) (i : Nat) (h : m.length ≤ 32) : 0 ≤ (digsS m).getD i 0 ∧ (digsS m).getD i 0 ≤ 15 := by
  have hc := ckS_le m
  by_cases h1 : i < 2 * m.length
  · rw [digsS_at m i h1]; exact dgS_le m i
  · by_cases h2 : i < 2 * m.length + 3
    · obtain ⟨j, hj, rfl⟩ : ∃ j, j < 3 ∧ i = 2 * m.length + j := ⟨i - 2 * m.length, by omega, by omega⟩
      rw [digsS_ck m j hj]
      match j, hj with
      | 0, _ => simp only [List.getD_cons_zero]; omega
      | 1, _ => simp only [List.getD_cons_zero, List.getD_cons_succ]; omega
      | 2, _ => simp only [List.getD_cons_zero, List.getD_cons_succ]; omega
    · have : (digsS m).getD i 0 = 0 := by
        rw [List.getD_eq_getElem?_getD, List.getElem?_eq_none (by rw [digsS_len]; omega)]; rfl
      rw [this]; omega
def dgN (m : By) (i : Nat) : Nat := ((digsS m).getD i 0).toNat
theorem dgN_eq (m : By) (i : Nat) (h : m.length ≤ 32) : (dgN m i : Int) = (digsS m).getD i 0 := by
  have := digsS_le m i h; simp only [dgN]; omega
theorem dgN_le (m : By) (i : Nat) (h : m.length ≤ 32) : dgN m i ≤ 15 := by
  have := digsS_le m i h; simp only [dgN]; omega
theorem sign1_fun (D : List Int) (i : Nat) (h : i < D.length) (hD : D.length ≤ 1000) : Fun Tryz.prog Gs 95 [Enc.enc (i : Int), .rop false [Enc.enc D]] (.i (D.getD i 0)) := by
  refine Fun_cc [] mo Tryz.func95 (by decide) cc95 rs95 Tryz.ntmps95 (by simp) ?_
  refine AW_run CtOK_nil 1000 ?_
  simp (maxSteps := 10000000) (disch := omega) only [go_sem, c95, reduceIte, seval, -BitVec.isValue, -BitVec.reduceOfNat, -List.reduceReplicate]
theorem public1_fun (i : Int) : Fun Tryz.prog Gs 107 [Enc.enc i] (.i 15) := by
  refine Fun_cc [] mo Tryz.func107 (by decide) cc107 rs107 Tryz.ntmps107 (by simp) ?_
  refine AW_run CtOK_nil 1000 ?_
  simp (maxSteps := 10000000) (disch := omega) only [go_sem, c107, reduceIte, seval, -BitVec.isValue, -BitVec.reduceOfNat, -List.reduceReplicate]
set_option maxHeartbeats 4000000 in
theorem signedS_fun (x : Xms) (D : List Int) (sk seed : By) (ws : List (BitVec 32)) (d : Nat → Nat) (hx : xmsT x.code = some x) (hs : seed.length ≤ 10000000) (hk : sk.length ≤ 10000000) (hw : ws.length = 8)
    (hfar : ∀ i : Nat, (i : Int) < x.len → Fun Tryz.prog Gs 95 [Enc.enc (i : Int), .rop false [Enc.enc D]] (.i (d i : Int)) ∧ d i ≤ 15) :
    Fun Tryz.prog Gs 94 [.agg (wayC x seed), Enc.enc sk, Enc.enc (⟨ws⟩ : Ar (BitVec 32)), .fn (.func 95) [] [.rop false [Enc.enc D]]] (Enc.ret (ends x.len.toNat (endF x sk seed ws d))) := by
  refine Fun_cc [] mo Tryz.func94 (by decide) cc94 rs94 Tryz.ntmps94 (by simp) ?_
  have hxl := xms_len hx
  refine AW_run (CtOK_nil (P := Tryz.prog) (Gl := Gs)) 1000 ?_
  simp (maxSteps := 10000000) (disch := omega) only [go_sem, c94, wayC, xmC, hw, reduceIte, seval, -BitVec.isValue, -BitVec.reduceOfNat, -List.reduceReplicate]
  refine AW_null 9 1 (by simp only [go_sem, reduceIte, seval, -BitVec.isValue, -BitVec.reduceOfNat, -List.reduceReplicate]) ?_
  refine AW_loop (σsg x sk seed ws d 95 [.rop false [Enc.enc D]]) (fun k => (k : Int) ≤ x.len) (fun k => x.len.toNat - k) 0 (by simp; omega) (Wk_p [] ?_) fun k hk' => ?_
  · simp only [go_sem, σsg, ends_zero, wayC, xmC, wsK, reduceIte, seval, -BitVec.isValue, -BitVec.reduceOfNat, -List.reduceReplicate]
    try simp
  · have hel := ends_len _ (endF_len hx sk seed ws d) k
    have hkl := wsK_len ws k
    rw [hw] at hkl
    by_cases hc : (k : Int) < x.len
    · obtain ⟨hF, hd⟩ := hfar k hc
      have h5 := wsK_set ws k (BitVec.ofInt 32 (k : Int))
      have hbl : (begK x sk seed ws k).length = x.n.toNat := begS_len hx sk seed ws (BitVec.ofInt 32 (k : Int))
      have hb5 := begS_set x sk seed ws (BitVec.ofInt 32 (k : Int))
      have hw5 : (w5 ws k).length = 8 := by simp [w5, hw]
      have e5 : ws.set 5 (BitVec.ofInt 32 (k : Int)) = w5 ws k := rfl
      have t5 : (w5 ws k).take 8 = w5 ws k := List.take_of_length_le (by omega)
      have hbk : begS x sk seed ws (BitVec.ofInt 32 (k : Int)) = begK x sk seed ws k := rfl
      rw [e5] at h5 hb5
      rw [hbk] at hb5
      have hmul : k * x.n.toNat ≤ 67 * 32 := Nat.mul_le_mul (by omega) (by omega)
      have hel1 := endF_len hx sk seed ws d k
      have hed : goS x seed (w5 ws k) 0 (d k) (begK x sk seed ws k) = endF x sk seed ws d k := rfl
      have hct := ctFar1_ok (cs := [.rop false [Enc.enc D]]) hF (ctBegin1_ok (x := x) (sk := sk) (seed := seed) (ws := w5 ws k) (i := (k : Int)) hx hs hk hw5 (ctSteps1_ok (x := x) (seed := seed) (ws := w5 ws k) (b := begK x sk seed ws k) (f := 0) (k := d k) hx (by omega) hw5 hbl (by omega) (CtOK_nil (P := Tryz.prog) (Gl := Gs))))
      have e0 : ((0 + d k : Nat) : Int) = (d k : Int) := by omega
      refine AW_ct _ (AW_run hct 1000 ?_)
      simp (maxSteps := 10000000) (disch := omega) only [go_sem, σsg, ctFar1, ctBegin1, ctSteps1, wayC, xmC, hw, hc, hkl, hw5, t5, h5, hb5, hed, e0, hel, hel1, reduceIte, seval, -BitVec.isValue, -BitVec.reduceOfNat, -List.reduceReplicate]
      refine ⟨k + 1, by omega, Wk_p [(2, 3)] ?_, by omega⟩
      simp only [go_sem, σsg, wayC, xmC, reduceIte, seval, -BitVec.isValue, -BitVec.reduceOfNat, -List.reduceReplicate]
      simp [ends_succ, hel, hel1, wsK]
    · have hge : k = x.len.toNat := by omega
      have hmul : k * x.n.toNat ≤ 67 * 32 := Nat.mul_le_mul (by omega) (by omega)
      have hej : (ends k (endF x sk seed ws d)).take (k * x.n.toNat) = ends k (endF x sk seed ws d) := List.take_of_length_le (by omega)
      rw [← hge]
      refine AW_run (CtOK_nil (P := Tryz.prog) (Gl := Gs)) 1000 ?_
      simp (maxSteps := 10000000) (disch := omega) only [go_sem, σsg, wayC, xmC, hw, hc, hel, hej, reduceIte, seval, -BitVec.isValue, -BitVec.reduceOfNat, -List.reduceReplicate]
      try simp
def pubN : Nat → Nat := fun _ => 15
def wpubV (x : Xms) (sk seed : By) (ws : List (BitVec 32)) : By := if wmayE x [sk, seed] = 0 then ends x.len.toNat (endF x sk seed ws pubN) else []
set_option maxHeartbeats 2000000 in
theorem WPublic_fun (x : Xms) (sk seed : By) (ws : List (BitVec 32)) (hb : sk.length ≤ 100000000) (hs : seed.length ≤ 100000000) (hw : ws.length = 8) :
    Fun Tryz.prog Gs 79 [Enc.enc x, Enc.enc sk, Enc.enc seed, Enc.enc (⟨ws⟩ : Ar (BitVec 32))] (.tup [Enc.ret (wpubV x sk seed ws), .i (wmayE x [sk, seed])]) := by
  have hbb := bb2 sk seed (by omega) (by omega)
  have hwt : ws.take 8 = ws := List.take_of_length_le (by omega)
  by_cases h : wmayE x [sk, seed] = 0
  · obtain ⟨hx, hp⟩ := wmayE_zero h
    have h1 := hp sk (by simp)
    have h2 := hp seed (by simp)
    have hx32 := xms_len hx
    rw [wpubV, if_pos h, h]
    have hS := signedP_fun x sk seed ws pubN hx (by omega) (by omega) hw fun i _ => ⟨public1_fun (i : Int), Nat.le_refl 15⟩
    have hct := mark_ok 14 (ctWmay_ok (ctAlong1_ok (seed := seed) hx (CtOK_cons (n := 94) (f := fun a => (a = [.agg (wayC x seed), Enc.enc sk, Enc.enc (⟨ws⟩ : Ar (BitVec 32)), .fn (.func 107) [] []], Enc.ret (ends x.len.toNat (endF x sk seed ws pubN)))) (fun a e => by
      have e : a = [.agg (wayC x seed), Enc.enc sk, Enc.enc (⟨ws⟩ : Ar (BitVec 32)), .fn (.func 107) [] []] := e
      subst e; exact hS) (CtOK_nil (P := Tryz.prog) (Gl := Gs)))))
    refine Fun_cc _ mo Tryz.func79 (by decide) cc79 rs79 Tryz.ntmps79 (by simp) (AW_run hct 1000 ?_)
    simp (maxSteps := 10000000) (disch := omega) only [go_sem, c79, mark, ctWmay, ctAlong1, wayR, wayC, kfn, xmC, h, hbb, hw, hwt, deL_cons, deL_nil, reduceIte, seval, -BitVec.isValue, -BitVec.reduceOfNat, -List.reduceReplicate]
    try simp
  · rw [wpubV, if_neg h]
    obtain ⟨e, he⟩ : ∃ e, e = wmayE x [sk, seed] := ⟨_, rfl⟩
    rw [← he] at h ⊢
    refine Fun_cc [mark 14, ctWmay] mo Tryz.func79 (by decide) cc79 rs79 Tryz.ntmps79 (by simp) ?_
    refine AW_run (mark_ok 14 (ctWmay_ok CtOK_nil)) 1000 ?_
    simp (maxSteps := 10000000) (disch := omega) only [go_sem, c79, mark, ctWmay, ← he, eq_false h, hbb, hw, deL_cons, deL_nil, reduceIte, seval, -BitVec.isValue, -BitVec.reduceOfNat, -List.reduceReplicate]
    try simp
def ctWPublic : Nat × (List AV → R) := (79, A4 fun (x : Xms) (sk seed : By) (a : Ar (BitVec 32)) => (sk.length ≤ 100000000 ∧ seed.length ≤ 100000000 ∧ a.l.length = 8, .tup [Enc.ret (wpubV x sk seed a.l), .i (wmayE x [sk, seed])]))
theorem ctWPublic_ok {Ct : List (Nat × (List AV → R))} (h : CtOK Tryz.prog Gs Ct) : CtOK Tryz.prog Gs (ctWPublic :: Ct) := CtOK_cons (Row4 fun x sk seed a h => WPublic_fun x sk seed a.l h.1 h.2.1 h.2.2) h
end Go.Lv

namespace Go.Lv
open Go Go.Proofs
set_option linter.unusedSimpArgs false
set_option maxRecDepth 100000

/-! ## Signatures -/
theorem bb3w (a b c : By) (ha : a.length ≤ 140737488351232) (hb : b.length ≤ 140737488351232) (hc : c.length ≤ 140737488351232) : bbOK [a, b, c] := bb3 a b c ha hb hc
def wsigV (x : Xms) (sk seed m : By) (ws : List (BitVec 32)) : By := if wmayE x [sk, seed, m] = 0 then ends x.len.toNat (endF x sk seed ws (dgN m)) else []
theorem xms_dig {x : Xms} (h : xmsT x.code = some x) {m : By} (hm : (m.length : Int) = x.n) : ((digsS m).length : Int) = x.len ∧ m.length ≤ 32 := by
  rw [digsS_len]; rcases xmsT_n h with ⟨h1, h2⟩ | ⟨h1, h2⟩ <;> omega
set_option maxHeartbeats 2000000 in
theorem WSign_fun (x : Xms) (sk seed m : By) (ws : List (BitVec 32)) (hb : sk.length ≤ 100000000) (hs : seed.length ≤ 100000000) (hm : m.length ≤ 100000000) (hw : ws.length = 8) :
    Fun Tryz.prog Gs 59 [Enc.enc x, Enc.enc sk, Enc.enc seed, Enc.enc m, Enc.enc (⟨ws⟩ : Ar (BitVec 32))] (.tup [Enc.ret (wsigV x sk seed m ws), .i (wmayE x [sk, seed, m])]) := by
  have hbb := bb3 sk seed m (by omega) (by omega) (by omega)
  have hwt : ws.take 8 = ws := List.take_of_length_le (by omega)
  by_cases h : wmayE x [sk, seed, m] = 0
  · obtain ⟨hx, hp⟩ := wmayE_zero h
    have h1 := hp sk (by simp)
    have h2 := hp seed (by simp)
    have h3 := hp m (by simp)
    have hx32 := xms_len hx
    obtain ⟨hd1, hd2⟩ := xms_dig hx h3
    rw [wsigV, if_pos h, h]
    have hS := signedS_fun x (digsS m) sk seed ws (dgN m) hx (by omega) (by omega) hw fun i hi => ⟨by rw [dgN_eq m i hd2]; exact sign1_fun (digsS m) i (by omega) (by omega), dgN_le m i hd2⟩
    have hz : ∀ H, frz H 6 false (.ros true (digsS m).length ((digsS m).map .i)) = .ros false (digsS m).length ((digsS m).map .i) := fun H => by simp only [frz, z_i, Bool.false_and]
    have hct := mark_ok 18 (ctWmay_ok (ctWdg_ok (ctAlong1_ok (seed := seed) hx (CtOK_cons (n := 94) (f := fun a => (a = [.agg (wayC x seed), Enc.enc sk, Enc.enc (⟨ws⟩ : Ar (BitVec 32)), .fn (.func 95) [] [.rop false [Enc.enc (digsS m)]]], Enc.ret (ends x.len.toNat (endF x sk seed ws (dgN m))))) (fun a e => by
      have e : a = [.agg (wayC x seed), Enc.enc sk, Enc.enc (⟨ws⟩ : Ar (BitVec 32)), .fn (.func 95) [] [.rop false [Enc.enc (digsS m)]]] := e
      subst e; exact hS) (CtOK_nil (P := Tryz.prog) (Gl := Gs))))))
    refine Fun_cc _ mo Tryz.func59 (by decide) cc59 rs59 Tryz.ntmps59 (by simp) (AW_run hct 1000 ?_)
    simp (maxSteps := 10000000) (disch := omega) only [go_sem, c59, mark, ctWmay, ctWdg, ctAlong1, wayR, wayC, kfn, xmC, h, hbb, hw, hwt, hz, List.set_cons_zero, List.getD_cons_zero, deL_cons, deL_nil, reduceIte, seval, -BitVec.isValue, -BitVec.reduceOfNat, -List.reduceReplicate]
    try simp
  · rw [wsigV, if_neg h]
    obtain ⟨e, he⟩ : ∃ e, e = wmayE x [sk, seed, m] := ⟨_, rfl⟩
    rw [← he] at h ⊢
    refine Fun_cc [mark 18, ctWmay] mo Tryz.func59 (by decide) cc59 rs59 Tryz.ntmps59 (by simp) ?_
    refine AW_run (mark_ok 18 (ctWmay_ok CtOK_nil)) 1000 ?_
    simp (maxSteps := 10000000) (disch := omega) only [go_sem, c59, mark, ctWmay, ← he, eq_false h, hbb, hw, deL_cons, deL_nil, reduceIte, seval, -BitVec.isValue, -BitVec.reduceOfNat, -List.reduceReplicate]
    try simp
def ctWSign : Nat × (List AV → R) := (59, A5 fun (x : Xms) (sk seed m : By) (a : Ar (BitVec 32)) => (sk.length ≤ 100000000 ∧ seed.length ≤ 100000000 ∧ m.length ≤ 100000000 ∧ a.l.length = 8, .tup [Enc.ret (wsigV x sk seed m a.l), .i (wmayE x [sk, seed, m])]))
theorem ctWSign_ok {Ct : List (Nat × (List AV → R))} (h : CtOK Tryz.prog Gs Ct) : CtOK Tryz.prog Gs (ctWSign :: Ct) := CtOK_cons (Row5 fun x sk seed m a h => WSign_fun x sk seed m a.l h.1 h.2.1 h.2.2.1 h.2.2.2) h

/-! ## Where a signature's chains end -/
def sigP (x : Xms) (sig : By) (i : Nat) : By := (sig.drop (i * x.n.toNat)).take x.n.toNat
def onF (x : Xms) (seed m sig : By) (ws : List (BitVec 32)) (i : Nat) : By := goS x seed (w5 ws i) (dgN m i) (15 - dgN m i) (sigP x sig i)
def wonE (x : Xms) (seed m sig : By) : Int := if wmayE x [seed, m] = 0 then (if (sig.length : Int) = x.len * x.n then 0 else 1) else wmayE x [seed, m]
def wonV (x : Xms) (seed m sig : By) (ws : List (BitVec 32)) : By := if wonE x seed m sig = 0 then ends x.len.toNat (onF x seed m sig ws) else []
theorem sigP_len (x : Xms) (sig : By) (i : Nat) (h : (i + 1) * x.n.toNat ≤ sig.length) : (sigP x sig i).length = x.n.toNat := by
  rw [Nat.succ_mul] at h
  simp [sigP]; omega
theorem ends_len' {n : Nat} (f : Nat → By) : ∀ p, (∀ i, i < p → (f i).length = n) → (ends p f).length = p * n
  | 0, _ => by simp [ends]
  | p + 1, hf => by rw [ends_succ, List.length_append, ends_len' f p (fun i hi => hf i (by omega)), hf p (by omega), Nat.succ_mul]
end Go.Lv

namespace Go.Lv
open Go Go.Proofs
set_option linter.unusedSimpArgs false
set_option maxRecDepth 100000

def wayL (x : Xms) (seed : By) : List AV := [.u32 x.code, .b x.shake, .i x.n, .i x.h, .i x.len, Enc.enc seed, kfn x (headS x.n 3#64), kfn x (headS x.n 0#64)]
def σfsg (x : Xms) (seed m sig : By) (ws : List (BitVec 32)) (k : Nat) : St :=
  ⟨[(3, Enc.enc sig), (5, .ptr 0 0), (9, .ptr 1 0), (13, .ptr 3 0), (14, Enc.ret (digsS m)), (15, .sl 4 0 (ends k (onF x seed m sig ws)).length 1), (39, .i x.len), (40, .i k)], [(0, ⟨xmC x, true⟩), (1, ⟨(wsK ws k).map .u32, true⟩), (3, ⟨wayL x seed, true⟩), (4, ⟨(ends k (onF x seed m sig ws)).map .u8, true⟩)], 5⟩
theorem onF_len {x : Xms} (h : xmsT x.code = some x) (seed m sig : By) (ws : List (BitVec 32)) (i : Nat) (hi : (i + 1) * x.n.toNat ≤ sig.length) : (onF x seed m sig ws i).length = x.n.toNat :=
  goS_len h _ _ _ _ _ (sigP_len x sig i hi)
theorem sig_room {x : Xms} (h : xmsT x.code = some x) {sig : By} (hs : (sig.length : Int) = x.len * x.n) (i : Nat) (hi : (i : Int) < x.len) : (i + 1) * x.n.toNat ≤ sig.length ∧ sig.length ≤ 2144 := by
  rcases xmsT_n h with ⟨h1, h2⟩ | ⟨h1, h2⟩
  · rw [h1, h2] at hs; rw [h2] at hi; rw [h1]; show (i + 1) * 24 ≤ _ ∧ _; omega
  · rw [h1, h2] at hs; rw [h2] at hi; rw [h1]; show (i + 1) * 32 ≤ _ ∧ _; omega
set_option maxHeartbeats 4000000 in
theorem WOn_fun (x : Xms) (seed m sig : By) (ws : List (BitVec 32)) (hs : seed.length ≤ 100000000) (hm : m.length ≤ 100000000) (hg : sig.length ≤ 100000000) (hw : ws.length = 8) :
    Fun Tryz.prog Gs 72 [Enc.enc x, Enc.enc seed, Enc.enc m, Enc.enc sig, Enc.enc (⟨ws⟩ : Ar (BitVec 32))] (.tup [Enc.ret (wonV x seed m sig ws), .i (wonE x seed m sig)]) := by
  have hbb := bb2 seed m (by omega) (by omega)
  have hwt : ws.take 8 = ws := List.take_of_length_le (by omega)
  by_cases h : wmayE x [seed, m] = 0
  · obtain ⟨hx, hp⟩ := wmayE_zero h
    have h1 := hp seed (by simp)
    have h2 := hp m (by simp)
    have hx32 := xms_len hx
    obtain ⟨hd1, hd2⟩ := xms_dig hx h2
    by_cases hl : (sig.length : Int) = x.len * x.n
    · have hE : wonE x seed m sig = 0 := by rw [wonE, if_pos h, if_pos hl]
      rw [wonV, if_pos hE, hE]
      have hct := mark_ok 20 (ctWmay_ok (ctWdg_ok (ctAlong1_ok (seed := seed) hx (CtOK_nil (P := Tryz.prog) (Gl := Gs)))))
      have hnl : x.len * x.n ≤ 2144 ∧ 0 ≤ x.len * x.n := by rcases xmsT_n hx with ⟨h1, h2⟩ | ⟨h1, h2⟩ <;> rw [h1, h2] <;> omega
      refine Fun_cc _ mo Tryz.func72 (by decide) cc72 rs72 Tryz.ntmps72 (by simp) (AW_run hct 1000 ?_)
      have hll : (sig.length : Int) = x.len * x.n := hl
      simp (maxSteps := 10000000) (disch := omega) only [go_sem, c72, mark, ctWmay, ctWdg, ctAlong1, wayR, kfn, xmC, h, hbb, hw, hwt, eq_true hll, hll, deL_cons, deL_nil, reduceIte, seval, -BitVec.isValue, -BitVec.reduceOfNat, -List.reduceReplicate]
      refine AW_null 15 1 (by simp only [go_sem, reduceIte, seval, -BitVec.isValue, -BitVec.reduceOfNat, -List.reduceReplicate]) ?_
      refine AW_loop (σfsg x seed m sig ws) (fun k => (k : Int) ≤ x.len) (fun k => x.len.toNat - k) 0 (by simp; omega) (Wk_p [] ?_) fun k hk' => ?_
      · simp only [go_sem, σfsg, ends_zero, wayL, kfn, xmC, wsK, List.set_cons_zero, reduceIte, seval, -BitVec.isValue, -BitVec.reduceOfNat, -List.reduceReplicate]
        try simp
      · have hel : (ends k (onF x seed m sig ws)).length = k * x.n.toNat := ends_len' _ k fun i hi => onF_len hx seed m sig ws i (sig_room hx hl i (by omega)).1
        have hkl := wsK_len ws k
        rw [hw] at hkl
        by_cases hc : (k : Int) < x.len
        · obtain ⟨r1, r2⟩ := sig_room hx hl k hc
          have h5 := wsK_set ws k (BitVec.ofInt 32 (k : Int))
          have hw5 : (w5 ws k).length = 8 := by simp [w5, hw]
          have e5 : ws.set 5 (BitVec.ofInt 32 (k : Int)) = w5 ws k := rfl
          have t5 : (w5 ws k).take 8 = w5 ws k := List.take_of_length_le (by omega)
          rw [e5] at h5
          have hmul : k * x.n.toNat ≤ 67 * 32 := Nat.mul_le_mul (by omega) (by omega)
          have hel1 := onF_len hx seed m sig ws k r1
          have hpl := sigP_len x sig k r1
          have hed : goS x seed (w5 ws k) (dgN m k) (15 - dgN m k) (sigP x sig k) = onF x seed m sig ws k := rfl
          have hdl := dgN_le m k hd2
          have hdq := dgN_eq m k hd2
          have hct := ctSteps1_ok (x := x) (seed := seed) (ws := w5 ws k) (b := sigP x sig k) (f := dgN m k) (k := 15 - dgN m k) hx (by omega) hw5 hpl (by omega) (CtOK_nil (P := Tryz.prog) (Gl := Gs))
          have e15 : ((dgN m k + (15 - dgN m k) : Nat) : Int) = 15 := by omega
          have hxn : x.n = (x.n.toNat : Int) := by omega
          have q1 : (k : Int) * x.n = ((k * x.n.toNat : Nat) : Int) := by rw [Int.natCast_mul, ← hxn]
          have q2 : ((k : Int) + 1) * x.n = ((k * x.n.toNat + x.n.toNat : Nat) : Int) := by rw [Int.add_mul, q1, Int.one_mul]; omega
          rw [Nat.succ_mul] at r1
          have q3 : k * x.n.toNat + x.n.toNat - k * x.n.toNat = x.n.toNat := by omega
          have hsp : (sig.drop (k * x.n.toNat)).take x.n.toNat = sigP x sig k := rfl
          refine AW_ct _ (AW_run hct 1000 ?_)
          simp (maxSteps := 10000000) (disch := omega) only [go_sem, σfsg, ctSteps1, wayL, wayC, kfn, xmC, hw, hc, hkl, hw5, t5, h5, hed, ← hdq, e15, hel, hel1, q1, q2, q3, hsp, hpl, reduceIte, seval, -BitVec.isValue, -BitVec.reduceOfNat, -List.reduceReplicate]
          refine ⟨k + 1, by omega, Wk_p [(4, 5)] ?_, by omega⟩
          simp only [go_sem, σfsg, wayL, kfn, xmC, reduceIte, seval, -BitVec.isValue, -BitVec.reduceOfNat, -List.reduceReplicate]
          simp [ends_succ, hel, hel1, wsK]
        · have hge : k = x.len.toNat := by omega
          have hmul : k * x.n.toNat ≤ 67 * 32 := Nat.mul_le_mul (by omega) (by omega)
          have hej : (ends k (onF x seed m sig ws)).take (k * x.n.toNat) = ends k (onF x seed m sig ws) := List.take_of_length_le (by omega)
          rw [← hge]
          refine AW_ct [] (AW_run (CtOK_nil (P := Tryz.prog) (Gl := Gs)) 1000 ?_)
          simp (maxSteps := 10000000) (disch := omega) only [go_sem, σfsg, wayL, kfn, xmC, hw, hc, hel, hej, reduceIte, seval, -BitVec.isValue, -BitVec.reduceOfNat, -List.reduceReplicate]
          try simp
    · have hE : wonE x seed m sig = 1 := by rw [wonE, if_pos h, if_neg hl]
      rw [wonV, hE, if_neg (by decide)]
      have hnl : x.len * x.n ≤ 2144 ∧ 0 ≤ x.len * x.n := by rcases xmsT_n hx with ⟨h1, h2⟩ | ⟨h1, h2⟩ <;> rw [h1, h2] <;> omega
      refine Fun_cc [mark 20, ctWmay] mo Tryz.func72 (by decide) cc72 rs72 Tryz.ntmps72 (by simp) ?_
      refine AW_run (mark_ok 20 (ctWmay_ok CtOK_nil)) 1000 ?_
      simp (maxSteps := 10000000) (disch := omega) only [go_sem, c72, mark, ctWmay, h, eq_false hl, hbb, hw, deL_cons, deL_nil, reduceIte, seval, -BitVec.isValue, -BitVec.reduceOfNat, -List.reduceReplicate]
      try simp
  · have hE : wonE x seed m sig = wmayE x [seed, m] := by rw [wonE, if_neg h]
    rw [wonV, hE, if_neg h]
    obtain ⟨e, he⟩ : ∃ e, e = wmayE x [seed, m] := ⟨_, rfl⟩
    rw [← he] at h ⊢
    refine Fun_cc [mark 20, ctWmay] mo Tryz.func72 (by decide) cc72 rs72 Tryz.ntmps72 (by simp) ?_
    refine AW_run (mark_ok 20 (ctWmay_ok CtOK_nil)) 1000 ?_
    simp (maxSteps := 10000000) (disch := omega) only [go_sem, c72, mark, ctWmay, ← he, eq_false h, hbb, hw, deL_cons, deL_nil, reduceIte, seval, -BitVec.isValue, -BitVec.reduceOfNat, -List.reduceReplicate]
    try simp
end Go.Lv

namespace Go.Lv
open Go Go.Proofs
set_option linter.unusedSimpArgs false
set_option maxRecDepth 100000

/-! ## The reference's chains -/
theorem rAt_fun (ws : List (BitVec 32)) (i : Int) (hw : ws.length = 8) : Fun Tryz.prog Gs 84 [Enc.enc (⟨ws⟩ : Ar (BitVec 32)), Enc.enc i] (Enc.ret (⟨ws.set 5 (BitVec.ofInt 32 i)⟩ : Ar (BitVec 32))) := by
  refine Fun_cc [] mo Tryz.func84 (by decide) cc84 rs84 Tryz.ntmps84 (by simp) ?_
  have hl : (ws.set 5 (BitVec.ofInt 32 i)).length = 8 := by simp [hw]
  have ht : (ws.set 5 (BitVec.ofInt 32 i)).take 8 = ws.set 5 (BitVec.ofInt 32 i) := List.take_of_length_le (by omega)
  refine AW_run CtOK_nil 1000 ?_
  simp (maxSteps := 10000000) (disch := omega) only [go_sem, c84, hw, ← List.map_set, hl, ht, reduceIte, seval, -BitVec.isValue, -BitVec.reduceOfNat, -List.reduceReplicate]
  try simp
def ctRAt : Nat × (List AV → R) := (84, A2 fun (a : Ar (BitVec 32)) (i : Int) => (a.l.length = 8, Enc.ret (⟨a.l.set 5 (BitVec.ofInt 32 i)⟩ : Ar (BitVec 32))))
theorem ctRAt_ok {Ct : List (Nat × (List AV → R))} (h : CtOK Tryz.prog Gs Ct) : CtOK Tryz.prog Gs (ctRAt :: Ct) := CtOK_cons (Row2 fun a i h => rAt_fun a.l i h) h
set_option maxHeartbeats 2000000 in
theorem rBegin_fun (x : Xms) (sk seed : By) (ws : List (BitVec 32)) (i : Int) (hx : xmsT x.code = some x) (hs : seed.length ≤ 10000000) (hk : sk.length ≤ 10000000) (hw : ws.length = 8) :
    Fun Tryz.prog Gs 83 [Enc.enc x, Enc.enc sk, Enc.enc seed, Enc.enc (⟨ws⟩ : Ar (BitVec 32)), Enc.enc i] (Enc.ret (begS x sk seed ws (BitVec.ofInt 32 i))) := by
  have hct := mark_ok 18 (ctRAt_ok (ctRWith_ok (ctJoin_ok (ctRKeyed_ok (CtOK_nil (P := Tryz.prog) (Gl := Gs))))))
  have hwt : ws.take 8 = ws := List.take_of_length_le (by omega)
  have hl : (ws.set 5 (BitVec.ofInt 32 i)).length = 8 := by simp [hw]
  have ht : (ws.set 5 (BitVec.ofInt 32 i)).take 8 = ws.set 5 (BitVec.ofInt 32 i) := List.take_of_length_le (by omega)
  have hal : (adrS (withS (ws.set 5 (BitVec.ofInt 32 i)) 0#32 0#32)).length = 32 := by rw [adrS_len, withS_len, hl]
  have w0 : BitVec.ofInt 32 0 = 0#32 := rfl
  have n4 : BitVec.ofNat 64 (Int.toNat 4) = 4#64 := rfl
  rw [begS]
  obtain ⟨ad, had⟩ : ∃ ad, ad = adrS (withS (ws.set 5 (BitVec.ofInt 32 i)) 0#32 0#32) := ⟨_, rfl⟩
  rw [← had] at hal ⊢
  have hfl : [seed, ad].flatten = seed ++ ad := by simp
  refine Fun_cc _ mo Tryz.func83 (by decide) cc83 rs83 Tryz.ntmps83 (by simp) (AW_run hct 1000 ?_)
  simp (maxSteps := 10000000) (disch := omega) only [go_sem, c83, mark, ctRAt, ctRWith, ctJoin, ctRKeyed, hw, hwt, hl, ht, w0, n4, ← had, hal, hfl, hx, deL_cons, deL_nil, reduceIte, seval, -BitVec.isValue, -BitVec.reduceOfNat, -List.reduceReplicate]
  try simp
def ctRBegin : Nat × (List AV → R) := (83, A5 fun (x : Xms) (sk seed : By) (a : Ar (BitVec 32)) (i : Int) => (xmsT x.code = some x ∧ seed.length ≤ 10000000 ∧ sk.length ≤ 10000000 ∧ a.l.length = 8, Enc.ret (begS x sk seed a.l (BitVec.ofInt 32 i))))
theorem ctRBegin_ok {Ct : List (Nat × (List AV → R))} (h : CtOK Tryz.prog Gs Ct) : CtOK Tryz.prog Gs (ctRBegin :: Ct) := CtOK_cons (Row5 fun x sk seed a i h => rBegin_fun x sk seed a.l i h.1 h.2.1 h.2.2.1 h.2.2.2) h
def σren (x : Xms) (sk seed : By) (ws : List (BitVec 32)) (d : Nat → Nat) (dv : AV) (k : Nat) : St :=
  ⟨[(1, Enc.enc sk), (2, Enc.enc seed), (4, dv), (5, .ptr 0 0), (8, .ptr 1 0), (11, Enc.ret (ends k (endF x sk seed ws d))), (16, .i x.len), (17, .i k)], [(0, ⟨xmC x, true⟩), (1, ⟨ws.map .u32, true⟩)], 2⟩
set_option maxHeartbeats 4000000 in
theorem rEndsP_fun (x : Xms) (sk seed : By) (ws : List (BitVec 32)) (hx : xmsT x.code = some x) (hs : seed.length ≤ 10000000) (hk : sk.length ≤ 10000000) (hw : ws.length = 8) :
    Fun Tryz.prog Gs 46 [Enc.enc x, Enc.enc sk, Enc.enc seed, Enc.enc (⟨ws⟩ : Ar (BitVec 32)), .ros true 0 []] (Enc.ret (ends x.len.toNat (endF x sk seed ws pubN))) := by
  refine Fun_cc [mark 14] mo Tryz.func46 (by decide) cc46 rs46 Tryz.ntmps46 (by simp) ?_
  have hxl := xms_len hx
  have hwt : ws.take 8 = ws := List.take_of_length_le (by omega)
  refine AW_run (mark_ok 14 (CtOK_nil (P := Tryz.prog) (Gl := Gs))) 1000 ?_
  simp (maxSteps := 10000000) (disch := omega) only [go_sem, c46, mark, xmC, hw, reduceIte, seval, -BitVec.isValue, -BitVec.reduceOfNat, -List.reduceReplicate]
  refine AW_loop (σren x sk seed ws pubN (.ros true 0 [])) (fun k => (k : Int) ≤ x.len) (fun k => x.len.toNat - k) 0 (by simp; omega) (Wk_p [] ?_) fun k hk' => ?_
  · simp only [go_sem, σren, ends_zero, xmC, reduceIte, seval, -BitVec.isValue, -BitVec.reduceOfNat, -List.reduceReplicate]
    try simp
  · have hel := ends_len _ (endF_len hx sk seed ws pubN) k
    have hel2 := ends_len _ (endF_len hx sk seed ws pubN) (k + 1)
    by_cases hc : (k : Int) < x.len
    · have hbl : (begK x sk seed ws k).length = x.n.toNat := begS_len hx sk seed ws (BitVec.ofInt 32 (k : Int))
      have hw5 : (w5 ws k).length = 8 := by simp [w5, hw]
      have e5 : ws.set 5 (BitVec.ofInt 32 (k : Int)) = w5 ws k := rfl
      have t5 : (w5 ws k).take 8 = w5 ws k := List.take_of_length_le (by omega)
      have hbk : begS x sk seed ws (BitVec.ofInt 32 (k : Int)) = begK x sk seed ws k := rfl
      have hmul : k * x.n.toNat ≤ 67 * 32 := Nat.mul_le_mul (by omega) (by omega)
      have hmul2 : (k + 1) * x.n.toNat ≤ 68 * 32 := Nat.mul_le_mul (by omega) (by omega)
      have hel1 := endF_len hx sk seed ws pubN k
      have hed : goS x seed (w5 ws k) 0 15 (begK x sk seed ws k) = endF x sk seed ws pubN k := rfl
      have hfl : [ends k (endF x sk seed ws pubN), endF x sk seed ws pubN k].flatten = ends (k + 1) (endF x sk seed ws pubN) := by rw [ends_succ]; simp
      have hct := mark_ok 41 (ctRBegin_ok (ctRAt_ok (ctJoin_ok (ctRGo1_ok (x := x) (seed := seed) (ws := w5 ws k) (b := begK x sk seed ws k) (f := 0) (k := 15) hx (by omega) hw5 hbl (by omega) (CtOK_nil (P := Tryz.prog) (Gl := Gs))))))
      refine AW_ct _ (AW_run hct 1000 ?_)
      simp (maxSteps := 10000000) (disch := omega) only [go_sem, σren, mark, ctRBegin, ctRAt, ctJoin, ctRGo1, xmC, hw, hwt, hc, hw5, e5, t5, hbk, hbl, hed, hfl, hx, hel, hel1, deL_cons, deL_nil, reduceIte, seval, -BitVec.isValue, -BitVec.reduceOfNat, -List.reduceReplicate]
      refine ⟨k + 1, by omega, Wk_p [] ?_, by omega⟩
      simp only [go_sem, σren, xmC, reduceIte, seval, -BitVec.isValue, -BitVec.reduceOfNat, -List.reduceReplicate]
      try simp
    · have hge : k = x.len.toNat := by omega
      rw [← hge]
      refine AW_ct [] (AW_run (CtOK_nil (P := Tryz.prog) (Gl := Gs)) 1000 ?_)
      simp (maxSteps := 10000000) (disch := omega) only [go_sem, σren, xmC, hw, hc, reduceIte, seval, -BitVec.isValue, -BitVec.reduceOfNat, -List.reduceReplicate]
      try simp
end Go.Lv

namespace Go.Lv
open Go Go.Proofs
set_option linter.unusedSimpArgs false
set_option maxRecDepth 100000

set_option maxHeartbeats 4000000 in
theorem rEndsS_fun (x : Xms) (sk seed m : By) (ws : List (BitVec 32)) (hx : xmsT x.code = some x) (hs : seed.length ≤ 10000000) (hk : sk.length ≤ 10000000) (hw : ws.length = 8) (hdd : ((digsS m).length : Int) = x.len) (hd2 : m.length ≤ 32) :
    Fun Tryz.prog Gs 46 [Enc.enc x, Enc.enc sk, Enc.enc seed, Enc.enc (⟨ws⟩ : Ar (BitVec 32)), Enc.enc (digsS m)] (Enc.ret (ends x.len.toNat (endF x sk seed ws (dgN m)))) := by
  refine Fun_cc [mark 14] mo Tryz.func46 (by decide) cc46 rs46 Tryz.ntmps46 (by simp) ?_
  have hxl := xms_len hx
  have hwt : ws.take 8 = ws := List.take_of_length_le (by omega)
  refine AW_run (mark_ok 14 (CtOK_nil (P := Tryz.prog) (Gl := Gs))) 1000 ?_
  simp (maxSteps := 10000000) (disch := omega) only [go_sem, c46, mark, xmC, hw, reduceIte, seval, -BitVec.isValue, -BitVec.reduceOfNat, -List.reduceReplicate]
  refine AW_loop (σren x sk seed ws (dgN m) (Enc.enc (digsS m))) (fun k => (k : Int) ≤ x.len) (fun k => x.len.toNat - k) 0 (by simp; omega) (Wk_p [] ?_) fun k hk' => ?_
  · simp only [go_sem, σren, ends_zero, xmC, reduceIte, seval, -BitVec.isValue, -BitVec.reduceOfNat, -List.reduceReplicate]
    try simp
  · have hel := ends_len _ (endF_len hx sk seed ws (dgN m)) k
    have hel2 := ends_len _ (endF_len hx sk seed ws (dgN m)) (k + 1)
    by_cases hc : (k : Int) < x.len
    · have hbl : (begK x sk seed ws k).length = x.n.toNat := begS_len hx sk seed ws (BitVec.ofInt 32 (k : Int))
      have hw5 : (w5 ws k).length = 8 := by simp [w5, hw]
      have e5 : ws.set 5 (BitVec.ofInt 32 (k : Int)) = w5 ws k := rfl
      have t5 : (w5 ws k).take 8 = w5 ws k := List.take_of_length_le (by omega)
      have hbk : begS x sk seed ws (BitVec.ofInt 32 (k : Int)) = begK x sk seed ws k := rfl
      have hmul : k * x.n.toNat ≤ 67 * 32 := Nat.mul_le_mul (by omega) (by omega)
      have hmul2 : (k + 1) * x.n.toNat ≤ 68 * 32 := Nat.mul_le_mul (by omega) (by omega)
      have hel1 := endF_len hx sk seed ws (dgN m) k
      have hed : goS x seed (w5 ws k) 0 (dgN m k) (begK x sk seed ws k) = endF x sk seed ws (dgN m) k := rfl
      have hdq := dgN_eq m k hd2
      have hdl := dgN_le m k hd2
      have hpos : (0 : Int) < (digsS m).length := by omega
      have hfl : [ends k (endF x sk seed ws (dgN m)), endF x sk seed ws (dgN m) k].flatten = ends (k + 1) (endF x sk seed ws (dgN m)) := by rw [ends_succ]; simp
      have hct := mark_ok 41 (ctRBegin_ok (ctRAt_ok (ctJoin_ok (ctRGo1_ok (x := x) (seed := seed) (ws := w5 ws k) (b := begK x sk seed ws k) (f := 0) (k := dgN m k) hx (by omega) hw5 hbl (by omega) (CtOK_nil (P := Tryz.prog) (Gl := Gs))))))
      refine AW_ct _ (AW_run hct 1000 ?_)
      simp (maxSteps := 10000000) (disch := omega) only [go_sem, σren, mark, ctRBegin, ctRAt, ctJoin, ctRGo1, xmC, hw, hwt, hc, hw5, e5, t5, hbk, hbl, hed, hfl, hx, hel, hel1, ← hdq, hpos, deL_cons, deL_nil, reduceIte, seval, -BitVec.isValue, -BitVec.reduceOfNat, -List.reduceReplicate]
      refine ⟨k + 1, by omega, Wk_p [] ?_, by omega⟩
      simp only [go_sem, σren, xmC, reduceIte, seval, -BitVec.isValue, -BitVec.reduceOfNat, -List.reduceReplicate]
      try simp
    · have hge : k = x.len.toNat := by omega
      rw [← hge]
      refine AW_ct [] (AW_run (CtOK_nil (P := Tryz.prog) (Gl := Gs)) 1000 ?_)
      simp (maxSteps := 10000000) (disch := omega) only [go_sem, σren, xmC, hw, hc, reduceIte, seval, -BitVec.isValue, -BitVec.reduceOfNat, -List.reduceReplicate]
      try simp
def ctREnds1 (x : Xms) (sk seed : By) (ws : List (BitVec 32)) (dv : AV) (d : Nat → Nat) : Nat × (List AV → R) := (46, fun a => (a = [Enc.enc x, Enc.enc sk, Enc.enc seed, Enc.enc (⟨ws⟩ : Ar (BitVec 32)), dv], Enc.ret (ends x.len.toNat (endF x sk seed ws d))))
theorem ctREnds1_ok {x : Xms} {sk seed : By} {ws : List (BitVec 32)} {dv : AV} {d : Nat → Nat} (hf : Fun Tryz.prog Gs 46 [Enc.enc x, Enc.enc sk, Enc.enc seed, Enc.enc (⟨ws⟩ : Ar (BitVec 32)), dv] (Enc.ret (ends x.len.toNat (endF x sk seed ws d)))) {Ct : List (Nat × (List AV → R))} (h : CtOK Tryz.prog Gs Ct) : CtOK Tryz.prog Gs (ctREnds1 x sk seed ws dv d :: Ct) := CtOK_cons (fun a e => by
  have e : a = [Enc.enc x, Enc.enc sk, Enc.enc seed, Enc.enc (⟨ws⟩ : Ar (BitVec 32)), dv] := e
  subst e; exact hf) h
end Go.Lv

namespace Go.Lv
open Go Go.Proofs
set_option linter.unusedSimpArgs false
set_option maxRecDepth 100000

def σron (x : Xms) (seed m sig : By) (ws : List (BitVec 32)) (k : Nat) : St :=
  ⟨[(1, Enc.enc seed), (3, Enc.enc sig), (5, .ptr 0 0), (9, .ptr 1 0), (11, Enc.ret (ends k (onF x seed m sig ws))), (12, Enc.ret (digsS m)), (18, .i x.len), (19, .i k)], [(0, ⟨xmC x, true⟩), (1, ⟨ws.map .u32, true⟩)], 2⟩
set_option maxHeartbeats 4000000 in
theorem rOn_fun (x : Xms) (seed m sig : By) (ws : List (BitVec 32)) (hx : xmsT x.code = some x) (hs : seed.length ≤ 10000000) (hw : ws.length = 8) (h2 : (m.length : Int) = x.n) (hl : (sig.length : Int) = x.len * x.n) :
    Fun Tryz.prog Gs 106 [Enc.enc x, Enc.enc seed, Enc.enc m, Enc.enc sig, Enc.enc (⟨ws⟩ : Ar (BitVec 32))] (Enc.ret (ends x.len.toNat (onF x seed m sig ws))) := by
  have hxl := xms_len hx
  have hwt : ws.take 8 = ws := List.take_of_length_le (by omega)
  obtain ⟨hd1, hd2⟩ := xms_dig hx h2
  refine Fun_cc [mark 14, ctWdg 62] mo Tryz.func106 (by decide) cc106 rs106 Tryz.ntmps106 (by simp) ?_
  refine AW_run (mark_ok 14 (ctRWdg_ok (CtOK_nil (P := Tryz.prog) (Gl := Gs)))) 1000 ?_
  simp (maxSteps := 10000000) (disch := omega) only [go_sem, c106, mark, ctWdg, xmC, hw, reduceIte, seval, -BitVec.isValue, -BitVec.reduceOfNat, -List.reduceReplicate]
  refine AW_loop (σron x seed m sig ws) (fun k => (k : Int) ≤ x.len) (fun k => x.len.toNat - k) 0 (by simp; omega) (Wk_p [] ?_) fun k hk' => ?_
  · simp only [go_sem, σron, ends_zero, xmC, reduceIte, seval, -BitVec.isValue, -BitVec.reduceOfNat, -List.reduceReplicate]
    try simp
  · have hel : (ends k (onF x seed m sig ws)).length = k * x.n.toNat := ends_len' _ k fun i hi => onF_len hx seed m sig ws i (sig_room hx hl i (by omega)).1
    by_cases hc : (k : Int) < x.len
    · obtain ⟨r1, r2⟩ := sig_room hx hl k hc
      have hel2 : (ends (k + 1) (onF x seed m sig ws)).length = (k + 1) * x.n.toNat := ends_len' _ (k + 1) fun i hi => onF_len hx seed m sig ws i (sig_room hx hl i (by omega)).1
      have hw5 : (w5 ws k).length = 8 := by simp [w5, hw]
      have e5 : ws.set 5 (BitVec.ofInt 32 (k : Int)) = w5 ws k := rfl
      have t5 : (w5 ws k).take 8 = w5 ws k := List.take_of_length_le (by omega)
      have hmul : k * x.n.toNat ≤ 67 * 32 := Nat.mul_le_mul (by omega) (by omega)
      have hmul2 : (k + 1) * x.n.toNat ≤ 68 * 32 := Nat.mul_le_mul (by omega) (by omega)
      have hel1 := onF_len hx seed m sig ws k r1
      have hpl := sigP_len x sig k r1
      have hed : goS x seed (w5 ws k) (dgN m k) (15 - dgN m k) (sigP x sig k) = onF x seed m sig ws k := rfl
      have hdl := dgN_le m k hd2
      have hdq := dgN_eq m k hd2
      have hfl : [ends k (onF x seed m sig ws), onF x seed m sig ws k].flatten = ends (k + 1) (onF x seed m sig ws) := by rw [ends_succ]; simp
      have hct := mark_ok 49 (ctRAt_ok (ctJoin_ok (ctRGo1_ok (x := x) (seed := seed) (ws := w5 ws k) (b := sigP x sig k) (f := dgN m k) (k := 15 - dgN m k) hx (by omega) hw5 hpl (by omega) (CtOK_nil (P := Tryz.prog) (Gl := Gs)))))
      have e15 : (15 : Int) - (dgN m k : Int) = ((15 - dgN m k : Nat) : Int) := by omega
      have hxn : x.n = (x.n.toNat : Int) := by omega
      have q1 : (k : Int) * x.n = ((k * x.n.toNat : Nat) : Int) := by rw [Int.natCast_mul, ← hxn]
      have q2 : ((k : Int) + 1) * x.n = ((k * x.n.toNat + x.n.toNat : Nat) : Int) := by rw [Int.add_mul, q1, Int.one_mul]; omega
      rw [Nat.succ_mul] at r1
      have q3 : k * x.n.toNat + x.n.toNat - k * x.n.toNat = x.n.toNat := by omega
      have hsp : (sig.drop (k * x.n.toNat)).take x.n.toNat = sigP x sig k := rfl
      refine AW_ct _ (AW_run hct 1000 ?_)
      simp (maxSteps := 10000000) (disch := omega) only [go_sem, σron, mark, ctRAt, ctJoin, ctRGo1, xmC, hw, hwt, hc, hw5, e5, t5, hed, hfl, ← hdq, e15, hel, hel1, q1, q2, q3, hsp, hpl, deL_cons, deL_nil, reduceIte, seval, -BitVec.isValue, -BitVec.reduceOfNat, -List.reduceReplicate]
      refine ⟨k + 1, by omega, Wk_p [] ?_, by omega⟩
      simp only [go_sem, σron, xmC, reduceIte, seval, -BitVec.isValue, -BitVec.reduceOfNat, -List.reduceReplicate]
      try simp
    · have hge : k = x.len.toNat := by omega
      rw [← hge]
      refine AW_ct [] (AW_run (CtOK_nil (P := Tryz.prog) (Gl := Gs)) 1000 ?_)
      simp (maxSteps := 10000000) (disch := omega) only [go_sem, σron, xmC, hw, hc, reduceIte, seval, -BitVec.isValue, -BitVec.reduceOfNat, -List.reduceReplicate]
      try simp
def ctROn1 (x : Xms) (seed m sig : By) (ws : List (BitVec 32)) : Nat × (List AV → R) := (106, fun a => (a = [Enc.enc x, Enc.enc seed, Enc.enc m, Enc.enc sig, Enc.enc (⟨ws⟩ : Ar (BitVec 32))], Enc.ret (ends x.len.toNat (onF x seed m sig ws))))
theorem ctROn1_ok {x : Xms} {seed m sig : By} {ws : List (BitVec 32)} (hx : xmsT x.code = some x) (hs : seed.length ≤ 10000000) (hw : ws.length = 8) (h2 : (m.length : Int) = x.n) (hl : (sig.length : Int) = x.len * x.n) {Ct : List (Nat × (List AV → R))} (h : CtOK Tryz.prog Gs Ct) : CtOK Tryz.prog Gs (ctROn1 x seed m sig ws :: Ct) := CtOK_cons (fun a e => by
  have e : a = [Enc.enc x, Enc.enc seed, Enc.enc m, Enc.enc sig, Enc.enc (⟨ws⟩ : Ar (BitVec 32))] := e
  subst e; exact rOn_fun x seed m sig ws hx hs hw h2 hl) h
def wonA (n : Nat) : Nat × (List AV → R) := (n, A5 fun (x : Xms) (seed m sig : By) (a : Ar (BitVec 32)) => (seed.length ≤ 100000000 ∧ m.length ≤ 100000000 ∧ sig.length ≤ 100000000 ∧ a.l.length = 8, .tup [Enc.ret (wonV x seed m sig a.l), .i (wonE x seed m sig)]))
theorem ctWOn_ok {Ct : List (Nat × (List AV → R))} (h : CtOK Tryz.prog Gs Ct) : CtOK Tryz.prog Gs (wonA 72 :: Ct) := CtOK_cons (Row5 fun x seed m sig a h => WOn_fun x seed m sig a.l h.1 h.2.1 h.2.2.1 h.2.2.2) h
end Go.Lv

