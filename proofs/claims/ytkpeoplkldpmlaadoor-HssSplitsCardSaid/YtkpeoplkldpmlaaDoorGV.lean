/- A part of the proof (GV). -/
import Derived.Test.YtkpeoplkldpmlaaDoorZj
import Derived.Test.YtkpeoplkldpmlaaDoorGX
import Derived.Test.YtkpeoplkldpmlaaDoorKphss
import Derived.Test.YtkpeoplkldpmlaaDoorKpliveryref09
set_option linter.all false
namespace Go.Lv
open Go Go.Proofs
set_option linter.unusedSimpArgs false
set_option maxRecDepth 100000

/-! ## What a tree below a leaf is made of -/
def trC (l : Lms) (o : Ots) (id seed : By) : List AV := [.u32 l.code, .b l.shake, .i l.n, .i l.h, .u32 o.code, .b o.shake, .i o.n, .i o.w, .i o.p, .i o.ls] ++ (id.map .u8 ++ [Enc.enc seed])
def belowR (o : Ots) (id : By) (q : BitVec 32) (seed : By) : AV := .tup [.agg (((secS (hO o) (hdS id q) seed 65535).take 16).map .u8), Enc.ret (secS (hO o) (hdS id q) seed 65534)]
theorem big65535 : bigL (65535#64) 2 = [255#8, 255#8] := by decide
theorem big65534 : bigL (65534#64) 2 = [255#8, 254#8] := by decide
theorem below_fun (l : Lms) (o : Ots) (id : By) (q : BitVec 32) (seed : By) (h : otsT o.code = some o) (hid : id.length = 16) (hs : seed.length ≤ 100000000) :
    Fun Tryd.prog Gs 145 [.agg (trC l o id seed), Enc.enc q] (belowR o id q seed) := by
  refine Fun_cc [] mo Tryd.func145 (by decide) cc145 rs145 Tryd.ntmps145 (by simp) ?_
  have hct := mark_ok 14 (mark_ok 17 (mark_ok 27 (mark_ok 30 (ctU32_ok (ctHash_ok CtOK_nil)))))
  refine AW_run CtOK_nil 4 ?_
  simp (maxSteps := 10000000) (disch := omega) only [go_sem, c145, trC, hid, reduceIte, seval, -BitVec.isValue, -BitVec.reduceOfNat, -List.reduceReplicate]
  refine AW_freeze 0 [2] (seg := ⟨trC l o id seed, true⟩) (by simp only [go_sem, trC, reduceIte, seval, -BitVec.isValue, -BitVec.reduceOfNat, -List.reduceReplicate]) rfl (AW_ct [mark 14, mark 17, mark 27, mark 30, ctU32, ctHash] (AW_run hct 1000 ?_))
  have hbl := bigL_len (q.setWidth 64) 4
  have hit : id.take 16 = id := List.take_of_length_le (by omega)
  have ho := otsT_ok h
  have hn := ho.n
  have hbb : bbOK [id, bigL (q.setWidth 64) 4, [255, 255, 255], seed] := bb4 _ _ _ _ (by omega) (by omega) (by simp) (by omega)
  have hbb' : bbOK [id, bigL (q.setWidth 64) 4, [255, 254, 255], seed] := bb4 _ _ _ _ (by omega) (by omega) (by simp) (by omega)
  have hf1 : [id, bigL (q.setWidth 64) 4, [255, 255, 255], seed].flatten = preS (hdS id q) 65535 ++ [255#8] ++ seed := by
    simp [preS, hdS, big65535]
  have hf2 : [id, bigL (q.setWidth 64) 4, [255, 254, 255], seed].flatten = preS (hdS id q) 65534 ++ [255#8] ++ seed := by
    simp [preS, hdS, big65534]
  have hl1 := hO_len ho (preS (hdS id q) 65535 ++ [255#8] ++ seed)
  have hp1 := preS_len (hdS id q) 65535
  have hp2 := preS_len (hdS id q) 65534
  have hdl := hd_len (q := q) hid
  have hs1 : secS (hO o) (hdS id q) seed 65535 = hO o (preS (hdS id q) 65535 ++ [255#8] ++ seed) := rfl
  have hs2 : secS (hO o) (hdS id q) seed 65534 = hO o (preS (hdS id q) 65534 ++ [255#8] ++ seed) := rfl
  rw [belowR, hs1, hs2]
  obtain ⟨X, hX⟩ : ∃ X, X = hO o (preS (hdS id q) 65535 ++ [255#8] ++ seed) := ⟨_, rfl⟩
  rw [← hX] at hl1 ⊢
  have hif : (if X.length ≤ 16 then X.length else 16) = 16 := by split <;> omega
  have hY : (X.map AV.u8).take 16 = (X.take 16).map AV.u8 := List.map_take.symm
  have hYl : (X.take 16).length = 16 := by simp; omega
  obtain ⟨Y, hYe⟩ : ∃ Y, Y = X.take 16 := ⟨_, rfl⟩
  rw [← hYe] at hY hYl ⊢
  have hYt : Y.take 16 = Y := List.take_of_length_le (by omega)
  have hYm : (Y.map AV.u8).take 16 = Y.map AV.u8 := List.take_of_length_le (by simp [hYl])
  have hx : ∀ x : AV, (id.map AV.u8 ++ [x]).drop 16 = [x] := fun x => by rw [List.drop_append_of_le_length (by simp [hid]), List.drop_of_length_le (by simp [hid])]; rfl
  have hk : ∀ x : AV, (id.map AV.u8 ++ [x]).take 16 = id.map AV.u8 := fun x => by rw [List.take_append_of_le_length (by simp [hid]), List.take_of_length_le (by simp [hid])]
  simp (maxSteps := 10000000) (disch := omega) only [go_sem, frzF, trC, hid, hk, hx, List.getD_cons_zero, mark, ctU32, ctHash, hit, hbl, hbb, hbb', hf1, hf2, hp1, hp2, hdl, hR h, ← hX, hif, hY, hYl, hYt, hYm, deL_cons, deL_nil, reduceIte, seval, -BitVec.isValue, -BitVec.reduceOfNat, -List.reduceReplicate]
  try simp
end Go.Lv

namespace Go.Lv
open Go Go.Proofs
set_option linter.unusedSimpArgs false
set_option maxRecDepth 100000

theorem one_shlN (h : Nat) : (1 : BitVec 64) <<< h = pw h := one_shl h
theorem otsT_cd {c : BitVec 32} {o : Ots} (h : otsT c = some o) : o.code = c := by
  unfold otsT at h
  split at h <;> simp only [Option.some.injEq, reduceCtorEq] at h <;> (subst h; apply BitVec.eq_of_toNat_eq; rename_i e; rw [e]; rfl)
theorem vfit_ots (v : Level) (h : vfit v) : otsT (otsX v.b).code = some (otsX v.b) := by
  have h2 := (vfit_some v h).2
  unfold otsX
  cases e : otsT v.b with
  | none => exact absurd e h2
  | some x => simp only [Option.getD_some]; rw [otsT_cd e]; exact e
def ctBelow (l : Lms) (o : Ots) (id : By) (q : BitVec 32) (seed : By) : Nat × (List AV → R) := (145, fun a => (a = [.agg (trC l o id seed), .u32 q], belowR o id q seed))
theorem ctBelow_ok {l : Lms} {o : Ots} {id : By} {q : BitVec 32} {seed : By} (h1 : otsT o.code = some o) (hid : id.length = 16) (hs : seed.length ≤ 100000000) {Ct : List (Nat × (List AV → R))} (h : CtOK Tryd.prog Gs Ct) : CtOK Tryd.prog Gs (ctBelow l o id q seed :: Ct) := CtOK_cons (fun a e => by
  have e : a = [.agg (trC l o id seed), .u32 q] := e
  subst e; exact below_fun l o id q seed h1 hid hs) h
def miE (v : Level) (seed : By) (x : BitVec 64) : Int := if vfit v then if (seed.length : Int) = (lmsX v.a).n then if pw (hN v) ≤ x then 80 else 0 else 1 else 90
def zarr : AV := .agg ((List.replicate 16 0#8).map .u8)
def ChildR (v : Level) (id : By) (q : BitVec 32) (seed : By) : AV :=
  if miE v seed (q.setWidth 64) = 0 then .tup [.agg (((secS (hO (otsX v.b)) (hdS id q) seed 65535).take 16).map .u8), Enc.ret (secS (hO (otsX v.b)) (hdS id q) seed 65534), .i 0]
  else .tup [zarr, .ros true 0 [], .i (miE v seed (q.setWidth 64))]
set_option maxHeartbeats 2000000 in
theorem Child_fun (v : Level) (id : By) (q : BitVec 32) (seed : By) (hid : id.length = 16) :
    Fun Tryd.prog Gs 71 [Enc.enc v, Enc.enc (⟨id⟩ : Ar (BitVec 8)), Enc.enc seed, Enc.enc q] (ChildR v id q seed) := by
  have hb := hN_eq v
  have hn := hN_le v
  have hit : id.take 16 = id := List.take_of_length_le (by omega)
  by_cases hf : vfit v
  · by_cases hs : (seed.length : Int) = (lmsX v.a).n
    · by_cases hx : pw (hN v) ≤ q.setWidth 64
      · have hE : miE v seed (q.setWidth 64) = 80 := by rw [miE, if_pos hf, if_pos hs, if_pos hx]
        rw [ChildR, hE, if_neg (by decide)]
        refine Fun_cc [ctSets] mo Tryd.func71 (by decide) cc71 rs71 Tryd.ntmps71 (by simp) ?_
        refine AW_run (ctSets_ok CtOK_nil) 1000 ?_
        simp (maxSteps := 10000000) (disch := omega) only [go_sem, c71, ctSets, eq_true hf, decide_true, eq_true hs, hb, one_shl, one_shlN, eq_true hx, hid, zarr, reduceIte, seval, -BitVec.isValue, -BitVec.reduceOfNat, -List.reduceReplicate]
        try simp
      · have hE : miE v seed (q.setWidth 64) = 0 := by rw [miE, if_pos hf, if_pos hs, if_neg hx]
        rw [ChildR, if_pos hE]
        have hsl := (lmsX_ok v.a).2.2.2
        have hl16 : ((secS (hO (otsX v.b)) (hdS id q) seed 65535).take 16).length = 16 := by
          have := secS_len (otsT_ok (vfit_ots v hf)) (hdS id q) seed 65535
          have := (otsT_ok (vfit_ots v hf)).n
          simp; omega
        obtain ⟨Y, hY⟩ : ∃ Y, Y = (secS (hO (otsX v.b)) (hdS id q) seed 65535).take 16 := ⟨_, rfl⟩
        rw [← hY] at hl16 ⊢
        have hYm : (Y.map AV.u8).take 16 = Y.map AV.u8 := List.take_of_length_le (by simp [hl16])
        refine Fun_cc [ctSets] mo Tryd.func71 (by decide) cc71 rs71 Tryd.ntmps71 (by simp) ?_
        refine AW_run (ctSets_ok CtOK_nil) 1000 ?_
        simp (maxSteps := 10000000) (disch := omega) only [go_sem, c71, ctSets, eq_true hf, decide_true, eq_true hs, hb, one_shl, one_shlN, eq_false hx, hid, hit, reduceIte, seval, -BitVec.isValue, -BitVec.reduceOfNat, -List.reduceReplicate]
        refine AW_ct [ctBelow (lmsX v.a) (otsX v.b) id q seed] (AW_run (ctBelow_ok (vfit_ots v hf) hid (by omega) CtOK_nil) 1000 ?_)
        simp (maxSteps := 10000000) (disch := omega) only [go_sem, ctBelow, trC, hb, belowR, ← hY, hl16, hYm, hid, hit, reduceIte, seval, -BitVec.isValue, -BitVec.reduceOfNat, -List.reduceReplicate]
        try simp
    · have hE : miE v seed (q.setWidth 64) = 1 := by rw [miE, if_pos hf, if_neg hs]
      rw [ChildR, hE, if_neg (by decide)]
      refine Fun_cc [ctSets] mo Tryd.func71 (by decide) cc71 rs71 Tryd.ntmps71 (by simp) ?_
      refine AW_run (ctSets_ok CtOK_nil) 1000 ?_
      simp (maxSteps := 10000000) (disch := omega) only [go_sem, c71, ctSets, eq_true hf, decide_true, eq_false hs, hid, zarr, reduceIte, seval, -BitVec.isValue, -BitVec.reduceOfNat, -List.reduceReplicate]
      try simp
  · have hE : miE v seed (q.setWidth 64) = 90 := by rw [miE, if_neg hf]
    rw [ChildR, hE, if_neg (by decide)]
    refine Fun_cc [ctSets] mo Tryd.func71 (by decide) cc71 rs71 Tryd.ntmps71 (by simp) ?_
    refine AW_run (ctSets_ok CtOK_nil) 1000 ?_
    simp (maxSteps := 10000000) (disch := omega) only [go_sem, c71, ctSets, eq_false hf, decide_false, hid, zarr, reduceIte, seval, -BitVec.isValue, -BitVec.reduceOfNat, -List.reduceReplicate]
    try simp
def ctChild : Nat × (List AV → R) := (71, A4 fun (v : Level) (id : Ar (BitVec 8)) (seed : By) (q : BitVec 32) => (id.l.length = 16, ChildR v id.l q seed))
theorem ctChild_ok {Ct : List (Nat × (List AV → R))} (h : CtOK Tryd.prog Gs Ct) : CtOK Tryd.prog Gs (ctChild :: Ct) := CtOK_cons (Row4 fun v id seed q h => Child_fun v id.l q seed h) h

theorem mayP_one (v : Level) : mayP [v] = vfit v := by
  apply propext
  constructor
  · intro h; exact (h.2.2.1 0 (by simp)).1
  · intro h
    refine ⟨by simp, by simp, fun j hj => ?_, ?_⟩
    · have : j = 0 := by simp at hj; omega
      subst this
      exact ⟨h, rfl, rfl⟩
    · have := hN_le v
      simp [hs]; omega
theorem rMaySeed_fun (v : Level) (seed : By) : Fun Tryd.prog Gs 146 [Enc.enc (⟨[v]⟩ : Lvs), Enc.enc seed] (.i (if vfit v then if (seed.length : Int) = (lmsX v.a).n then 0 else 1 else 90)) := by
  refine Fun_cc [ctRMayL, ctRSets] mo Tryd.func146 (by decide) cc146 rs146 Tryd.ntmps146 (by simp) ?_
  have hct := ctRMayL_ok (ctRSets_ok CtOK_nil)
  have hm := mayP_one v
  have hl : lvc [v] = [.u32 v.a, .u32 v.b] := rfl
  have hd : deV [AV.u32 v.a, AV.u32 v.b] = [v] := rfl
  by_cases hf : vfit v
  · by_cases hs : (seed.length : Int) = (lmsX v.a).n
    · rw [if_pos hf, if_pos hs]
      refine AW_run hct 1000 ?_
      simp (maxSteps := 10000000) (disch := omega) only [go_sem, c146, ctRMayL, ctRSets, hl, hd, hm, eq_true hf, decide_true, eq_true hs, reduceIte, seval, -BitVec.isValue, -BitVec.reduceOfNat, -List.reduceReplicate]
    · rw [if_pos hf, if_neg hs]
      refine AW_run hct 1000 ?_
      simp (maxSteps := 10000000) (disch := omega) only [go_sem, c146, ctRMayL, ctRSets, hl, hd, hm, eq_true hf, decide_true, eq_false hs, reduceIte, seval, -BitVec.isValue, -BitVec.reduceOfNat, -List.reduceReplicate]
  · rw [if_neg hf]
    refine AW_run hct 1000 ?_
    simp (maxSteps := 10000000) (disch := omega) only [go_sem, c146, ctRMayL, ctRSets, hl, hd, hm, eq_false hf, decide_false, reduceIte, seval, -BitVec.isValue, -BitVec.reduceOfNat, -List.reduceReplicate]
end Go.Lv

namespace Go.Lv
open Go Go.Proofs
set_option linter.unusedSimpArgs false
set_option maxRecDepth 100000

def ctRMaySeed : Nat × (List AV → R) := (146, A2 fun (l : Lvs) (seed : By) => (l.l.length = 1, .i (if vfit (l.l.getD 0 lv0) then if (seed.length : Int) = (lmsX (l.l.getD 0 lv0).a).n then 0 else 1 else 90)))
theorem ctRMaySeed_ok {Ct : List (Nat × (List AV → R))} (h : CtOK Tryd.prog Gs Ct) : CtOK Tryd.prog Gs (ctRMaySeed :: Ct) := CtOK_cons (Row2 fun l seed h => by
  obtain ⟨l⟩ := l
  match l, h with
  | [v], _ => exact rMaySeed_fun v seed) h
theorem hs_one (v : Level) : hs [v] 1 = hN v := by simp [hs]
theorem rMayIndex_fun (v : Level) (seed : By) (x : BitVec 64) : Fun Tryd.prog Gs 72 [Enc.enc (⟨[v]⟩ : Lvs), Enc.enc seed, Enc.enc x] (.i (miE v seed x)) := by
  refine Fun_cc [ctRMaySeed, ctCount 69] mo Tryd.func72 (by decide) cc72 rs72 Tryd.ntmps72 (by simp) ?_
  have hct := ctRMaySeed_ok (ctRCount_ok CtOK_nil)
  have hl : lvc [v] = [.u32 v.a, .u32 v.b] := rfl
  have hd : deV [AV.u32 v.a, AV.u32 v.b] = [v] := rfl
  have h1 := hs_one v
  by_cases hf : vfit v
  · by_cases hs : (seed.length : Int) = (lmsX v.a).n
    · by_cases hx : pw (hN v) ≤ x
      · rw [miE, if_pos hf, if_pos hs, if_pos hx]
        refine AW_run hct 1000 ?_
        simp (maxSteps := 10000000) (disch := omega) only [go_sem, c72, ctRMaySeed, ctCount, hl, hd, h1, eq_true hf, eq_true hs, eq_true hx, List.length_cons, List.length_nil, List.getD_cons_zero, reduceIte, seval, -BitVec.isValue, -BitVec.reduceOfNat, -List.reduceReplicate]
      · rw [miE, if_pos hf, if_pos hs, if_neg hx]
        refine AW_run hct 1000 ?_
        simp (maxSteps := 10000000) (disch := omega) only [go_sem, c72, ctRMaySeed, ctCount, hl, hd, h1, eq_true hf, eq_true hs, eq_false hx, List.length_cons, List.length_nil, List.getD_cons_zero, reduceIte, seval, -BitVec.isValue, -BitVec.reduceOfNat, -List.reduceReplicate]
    · rw [miE, if_pos hf, if_neg hs]
      refine AW_run hct 1000 ?_
      simp (maxSteps := 10000000) (disch := omega) only [go_sem, c72, ctRMaySeed, ctCount, hl, hd, h1, eq_true hf, eq_false hs, List.length_cons, List.length_nil, List.getD_cons_zero, reduceIte, seval, -BitVec.isValue, -BitVec.reduceOfNat, -List.reduceReplicate]
  · rw [miE, if_neg hf]
    refine AW_run hct 1000 ?_
    simp (maxSteps := 10000000) (disch := omega) only [go_sem, c72, ctRMaySeed, ctCount, hl, hd, h1, eq_false hf, List.length_cons, List.length_nil, List.getD_cons_zero, reduceIte, seval, -BitVec.isValue, -BitVec.reduceOfNat, -List.reduceReplicate]
def ctRMayIndex : Nat × (List AV → R) := (72, A3 fun (l : Lvs) (seed : By) (x : BitVec 64) => (l.l.length = 1, .i (miE (l.l.getD 0 lv0) seed x)))
theorem ctRMayIndex_ok {Ct : List (Nat × (List AV → R))} (h : CtOK Tryd.prog Gs Ct) : CtOK Tryd.prog Gs (ctRMayIndex :: Ct) := CtOK_cons (Row3 fun l seed x h => by
  obtain ⟨l⟩ := l
  match l, h with
  | [v], _ => exact rMayIndex_fun v seed x) h

/-! ## The reference's split -/
theorem pwN (h : Nat) (hh : h ≤ 60) : (pw h).toNat = 2 ^ h := by
  rw [pw, BitVec.toNat_ofNat]
  exact Nat.mod_eq_of_lt (Nat.pow_lt_pow_right (by omega) (by omega))
theorem pw_rem (x : BitVec 64) (h : Nat) (hh : h ≤ 60) : x % pw h = x &&& (pw h - 1#64) := by
  have h1 : 0 < 2 ^ h := Nat.two_pow_pos h
  have h2 : 2 ^ h ≤ 2 ^ 60 := Nat.pow_le_pow_right (by omega) hh
  apply BitVec.eq_of_toNat_eq
  rw [BitVec.toNat_umod, BitVec.toNat_and, BitVec.toNat_sub, pwN h hh]
  rw [show (2 ^ 64 - BitVec.toNat 1#64 + 2 ^ h) % 2 ^ 64 = 2 ^ h - 1 by
    rw [show BitVec.toNat 1#64 = 1 from rfl]; omega]
  exact (Nat.and_two_pow_sub_one_eq_mod _ _).symm
theorem pw_quo (x : BitVec 64) (h : Nat) (hh : h ≤ 60) : x / pw h = x >>> h := by
  apply BitVec.eq_of_toNat_eq
  rw [BitVec.toNat_udiv, pwN h hh, BitVec.toNat_ushiftRight, Nat.shiftRight_eq_div_pow]
theorem pw_ne (h : Nat) (hh : h ≤ 60) : ¬ pw h = 0#64 := fun e => by
  have := congrArg BitVec.toNat e
  rw [pwN h hh] at this
  have h1 : 0 < 2 ^ h := Nat.two_pow_pos h
  simp at this
theorem leaves_drop (ls : List Level) (x : BitVec 64) (i : Nat) (h : i < ls.length) : (leaves ls x).drop i = leafS ls x i :: (leaves ls x).drop (i + 1) := by
  rw [List.drop_eq_getElem_cons (by simp [leaves]; exact h)]
  simp [leaves]
theorem leaves_length (ls : List Level) (x : BitVec 64) : (leaves ls x).length = ls.length := by simp [leaves]

def σrs (ls : List Level) (x : BitVec 64) (m : Nat) : St := ⟨[(0, .ros false ls.length (lvc ls)), (1, .u64 (x >>> (hs ls ls.length - hs ls m))), (5, .sl 0 0 ((leaves ls x).drop m).length 1), (6, .i ((m : Int) - 1))], [(0, ⟨((leaves ls x).drop m).map .u32, true⟩)], 1⟩
set_option maxHeartbeats 4000000 in
theorem rSplit_fun (ls : Lvs) (x : BitVec 64) (h8 : ls.l.length ≤ 8) : Fun Tryd.prog Gs 70 [Enc.enc ls, Enc.enc x] (Enc.ret (leaves ls.l x)) := by
  obtain ⟨ls⟩ := ls
  simp only at h8 ⊢
  refine Fun_cc [ctRSets, ctLeaves] mo Tryd.func70 (by decide) cc70 rs70 Tryd.ntmps70 (by simp) ?_
  have hct := ctRSets_ok (ctLeaves_ok CtOK_nil)
  refine AW_run hct 1000 ?_
  simp (maxSteps := 10000000) (disch := omega) only [go_sem, c70, ctRSets, ctLeaves, reduceIte, seval, -BitVec.isValue, -BitVec.reduceOfNat, -List.reduceReplicate]
  refine AW_loop (σrs ls x) (fun m => m ≤ ls.length) (fun m => m) ls.length (Nat.le_refl _) (Wk_p [(0, 0)] ?_) fun m hk => ?_
  · have hd0 : (leaves ls x).drop ls.length = [] := List.drop_of_length_le (by rw [leaves_length]; omega)
    simp only [go_sem, σrs, hd0, Nat.sub_self, List.length_nil, List.map_nil, reduceIte, seval, -BitVec.isValue, -BitVec.reduceOfNat, -List.reduceReplicate]
    try simp
  · by_cases hd : 0 < m
    · obtain ⟨i, rfl⟩ : ∃ i, m = i + 1 := ⟨m - 1, by omega⟩
      have e1 : (((i + 1 : Nat) : Int) - 1) = (i : Int) := by omega
      have hat := lvc_at' ls i (by omega)
      have hsu := hs_succ ls i (by omega)
      have hmo := hs_mono ls (i + 1) (ls.length - (i + 1)) (by omega)
      rw [Nat.add_sub_cancel' hk] at hmo
      have hdr := leaves_drop ls x i (by omega)
      have hll : ((leaves ls x).drop (i + 1)).length = ls.length - (i + 1) := by rw [List.length_drop, leaves_length]
      rw [leafS] at hdr
      obtain ⟨v, hv⟩ : ∃ v, v = ls.getD i lv0 := ⟨_, rfl⟩
      rw [← hv] at hat hsu hdr
      have hb := hN_eq v
      have hn := hN_le v
      have e2 : hs ls ls.length - hs ls (i + 1) + hN v = hs ls ls.length - hs ls i := by omega
      have hsm : lmsSm (lmsX v.a) := lmsX_ok v.a
      have hh : (lmsX v.a).h.toNat = hN v := rfl
      have hne : ¬ pw (hN v) = 0#64 := pw_ne (hN v) (by omega)
      have hne2 : ¬ pw (hN v) = (0 : BitVec 64) := hne
      have hrm := pw_rem (x >>> (hs ls ls.length - hs ls (i + 1))) (hN v) (by omega)
      have hqu := pw_quo (x >>> (hs ls ls.length - hs ls (i + 1))) (hN v) (by omega)
      obtain ⟨L, hL⟩ : ∃ L, L = (leaves ls x).drop (i + 1) := ⟨_, rfl⟩
      rw [← hL] at hdr hll
      refine AW_run hct 1000 ?_
      simp (maxSteps := 10000000) (disch := omega) only [go_sem, σrs, ctRSets, ctLeaves, e1, hat, hh, hsm, hne, hne2, hrm, hqu, ← hL, hll, reduceIte, seval, -BitVec.isValue, -BitVec.reduceOfNat, -List.reduceReplicate]
      refine ⟨i, by omega, Wk_p [(0, 4)] ?_, by omega⟩
      simp only [go_sem, σrs, e1, hdr, reduceIte, seval, -BitVec.isValue, -BitVec.reduceOfNat, -List.reduceReplicate]
      simp
      exact ⟨⟨by rw [← BitVec.shiftRight_add, e2], by rw [leaves_length]; omega⟩, List.take_of_length_le (by simp [hll])⟩
    · have : m = 0 := by omega
      subst this
      refine AW_run hct 1000 ?_
      have hl := leaves_length ls x
      simp (maxSteps := 10000000) (disch := omega) only [go_sem, σrs, ctRSets, ctLeaves, List.drop_zero, hl, reduceIte, seval, -BitVec.isValue, -BitVec.reduceOfNat, -List.reduceReplicate]
      rw [List.take_of_length_le (by simp [hl])]
def ctRSplit : Nat × (List AV → R) := (70, A2 fun (ls : Lvs) (x : BitVec 64) => (ls.l.length ≤ 8, Enc.ret (leaves ls.l x)))
theorem ctRSplit_ok {Ct : List (Nat × (List AV → R))} (h : CtOK Tryd.prog Gs Ct) : CtOK Tryd.prog Gs (ctRSplit :: Ct) := CtOK_cons (Row2 fun ls x h => rSplit_fun ls x h) h
end Go.Lv

namespace Go.Lv
open Go Go.Proofs
set_option linter.unusedSimpArgs false
set_option maxRecDepth 100000

def arr16 (Y : By) (k : Nat) : By := Y.take k ++ List.replicate (16 - k) 0#8
theorem arr16_len (Y : By) (k : Nat) (hY : Y.length = 16) (hk : k ≤ 16) : (arr16 Y k).length = 16 := by simp [arr16]; omega
theorem arr16_all (Y : By) (hY : Y.length = 16) : arr16 Y 16 = Y := by rw [arr16, List.take_of_length_le (by omega)]; simp
theorem arr16_set (Y : By) (k : Nat) (hY : Y.length = 16) (hk : k < 16) : (arr16 Y k).set k (Y.getD k 0) = arr16 Y (k + 1) := by
  apply List.ext_getElem (by simp [arr16]; omega)
  intro j h1 h2
  simp only [arr16, List.getElem_set, List.getElem_append, List.length_take, List.getElem_take, List.getElem_replicate]
  by_cases e : k = j
  · subst e
    rw [if_pos rfl, dif_pos (by omega)]
    simp [List.getD_eq_getElem?_getD, hY, hk]
  · rw [if_neg e]
    by_cases e2 : j < k
    · rw [dif_pos (by omega), dif_pos (by omega)]
    · rw [dif_neg (by omega), dif_neg (by omega)]
def σrc9 (o : Ots) (id : By) (q : BitVec 32) (seed Y : By) (k : Nat) : St :=
  ⟨[(2, Enc.enc seed), (3, .u32 q), (5, .ptr 1 0), (8, .ptr 2 0), (11, .ptr 4 0), (12, .ptr 5 0), (25, .ros true 16 (Y.map .u8)), (26, .i 16), (27, .i k)],
   [(1, ⟨id.map .u8, true⟩), (2, ⟨(List.replicate 16 0#8).map .u8, true⟩), (4, ⟨otsC o, true⟩), (5, ⟨(arr16 Y k).map .u8, true⟩)], 6⟩
theorem zer16 : (List.replicate 16 0#8).map AV.u8 = [AV.u8 0#8, AV.u8 0#8, AV.u8 0#8, AV.u8 0#8, AV.u8 0#8, AV.u8 0#8, AV.u8 0#8, AV.u8 0#8, AV.u8 0#8, AV.u8 0#8, AV.u8 0#8, AV.u8 0#8, AV.u8 0#8, AV.u8 0#8, AV.u8 0#8, AV.u8 0#8] := rfl
theorem arr16_zero (Y : By) : arr16 Y 0 = List.replicate 16 0#8 := rfl
set_option maxHeartbeats 4000000 in
theorem rChild_fun (v : Level) (id : By) (q : BitVec 32) (seed : By) (hf : vfit v) (hid : id.length = 16) (hs : seed.length ≤ 100000000) :
    Fun Tryd.prog Gs 73 [Enc.enc v, Enc.enc (⟨id⟩ : Ar (BitVec 8)), Enc.enc seed, Enc.enc q] (.tup [.agg (((secS (hO (otsX v.b)) (hdS id q) seed 65535).take 16).map .u8), Enc.ret (secS (hO (otsX v.b)) (hdS id q) seed 65534)]) := by
  have ho := otsT_ok (vfit_ots v hf)
  have hn := ho.n
  have hit : id.take 16 = id := List.take_of_length_le (by omega)
  have hSl := secS_len ho (hdS id q) seed 65535
  refine Fun_cc [ctRSets, ctRSecret] mo Tryd.func73 (by decide) cc73 rs73 Tryd.ntmps73 (by simp) ?_
  have hct := ctRSets_ok (ctRSecret_ok CtOK_nil)
  obtain ⟨o, hoo⟩ : ∃ o, o = otsX v.b := ⟨_, rfl⟩
  rw [← hoo] at ho hn hSl ⊢
  obtain ⟨S, hS⟩ : ∃ S, S = secS (hO o) (hdS id q) seed 65535 := ⟨_, rfl⟩
  rw [← hS] at hSl ⊢
  have hYl : (S.take 16).length = 16 := by simp; omega
  have hYm : (S.map AV.u8).take 16 = (S.take 16).map AV.u8 := List.map_take.symm
  have h16 : (16 : Int) ≤ S.length := by omega
  obtain ⟨Y, hY⟩ : ∃ Y, Y = S.take 16 := ⟨_, rfl⟩
  rw [← hY] at hYl hYm ⊢
  refine AW_run hct 1000 ?_
  simp (maxSteps := 10000000) (disch := omega) only [go_sem, c73, ctRSets, ctRSecret, hid, hit, ho, ← hoo, ← hS, h16, hYm, reduceIte, seval, -BitVec.isValue, -BitVec.reduceOfNat, -List.reduceReplicate]
  refine AW_loop (σrc9 o id q seed Y) (fun k => k ≤ 16) (fun k => 16 - k) 0 (Nat.zero_le _) (Wk_p [] ?_) fun k hk => ?_
  · simp only [go_sem, σrc9, arr16_zero, zer16, otsC, reduceIte, seval, -BitVec.isValue, -BitVec.reduceOfNat, -List.reduceReplicate]
    try simp
  · have hal := arr16_len Y k hYl hk
    refine AW_ct [ctRSets, ctRSecret] (AW_run hct 1000 ?_)
    by_cases hc : k < 16
    · have hc' : (k : Int) < 16 := by omega
      have hset := arr16_set Y k hYl hc
      simp (maxSteps := 10000000) (disch := omega) only [go_sem, σrc9, ctRSets, ctRSecret, zer16, otsC, hc', hYl, hal, hset, reduceIte, seval, -BitVec.isValue, -BitVec.reduceOfNat, -List.reduceReplicate]
      refine ⟨k + 1, by omega, Wk_p [] ?_, by omega⟩
      simp only [go_sem, σrc9, zer16, otsC, reduceIte, seval, -BitVec.isValue, -BitVec.reduceOfNat, -List.reduceReplicate]
      try simp
    · have : k = 16 := by omega
      subst this
      have ha := arr16_all Y hYl
      have hYt : Y.take 16 = Y := List.take_of_length_le (by omega)
      have hYu : (Y.map AV.u8).take 16 = Y.map AV.u8 := List.take_of_length_le (by simp [hYl])
      simp (maxSteps := 10000000) (disch := omega) only [go_sem, σrc9, ctRSets, ctRSecret, zer16, otsC, ha, hYl, hid, hit, ho, hYt, hYu, reduceIte, seval, -BitVec.isValue, -BitVec.reduceOfNat, -List.reduceReplicate]
      try simp
end Go.Lv

