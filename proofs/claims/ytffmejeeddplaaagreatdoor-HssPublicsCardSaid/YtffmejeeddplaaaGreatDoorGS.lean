/- A part of the proof (GS). -/
import Derived.Test.YtffmejeeddplaaaGreatDoorGU
import Derived.Test.YtffmejeeddplaaaGreatDoorGT
import Derived.Test.YtffmejeeddplaaaGreatDoorGK
import Derived.Test.YtffmejeeddplaaaGreatDoorFD
set_option linter.all false
namespace Go.Lv
open Go Go.Proofs
set_option linter.unusedSimpArgs false
set_option maxRecDepth 100000
theorem neg31 : ∀ n : Nat, n < 32 → 0 < n → (BitVec.ofInt 64 (-(n : Int)) &&& 31#64) = BitVec.ofNat 64 (32 - n) := by decide +kernel
theorem sub32 : ∀ n : Nat, n < 32 → 0 < n → (32#64 - BitVec.ofNat 64 (32 - n)) = BitVec.ofNat 64 n := by decide +kernel
theorem rl32_fun (x : W32) (n : Nat) (h0 : 0 < n) (h : n < 32) : Fun Tryz.prog Gs 290 [Enc.enc x, Enc.enc (-(n : Int))] (.u32 (rotr x n)) := by
  refine Fun_cc [] mo Tryz.func290 (by decide) cc290 rs290 Tryz.ntmps290 (by simp) ?_
  refine AW_run CtOK_nil 1000 ?_
  have e1 := neg31 n h h0
  have e2 := sub32 n h h0
  have e1' : (BitVec.ofInt 64 (-(n : Int)) &&& (31 : BitVec 64)) = BitVec.ofNat 64 (32 - n) := e1
  have e2' : ((32 : BitVec 64) - BitVec.ofNat 64 (32 - n)) = BitVec.ofNat 64 n := e2
  have e3 : (BitVec.ofNat 64 (32 - n)).toNat = 32 - n := by simp; omega
  have e4 : (BitVec.ofNat 64 n).toNat = n := by simp; omega
  simp (maxSteps := 10000000) (disch := omega) only [go_sem, c290, e1, e2, e1', e2', e3, e4, reduceIte, seval, -BitVec.isValue, -BitVec.reduceOfNat, -List.reduceReplicate]
  rw [rotr, BitVec.or_comm]
def ctRl32 : Nat × (List AV → R) := (290, A2 fun (x : W32) (n : Int) => (-32 < n ∧ n < 0, .u32 (rotr x (-n).toNat)))
theorem ctRl32_ok {Ct : List (Nat × (List AV → R))} (h : CtOK Tryz.prog Gs Ct) : CtOK Tryz.prog Gs (ctRl32 :: Ct) := CtOK_cons (Row2 fun x n h => by
  have := rl32_fun x (-n).toNat (by omega) (by omega)
  rwa [show -(((-n).toNat : Nat) : Int) = n by omega] at this) h
theorem right_fun (x : W32) (n : Int) (h0 : 0 < n) (h : n < 32) : Fun Tryz.prog Gs 285 [Enc.enc x, Enc.enc n] (.u32 (rotr x n.toNat)) := by
  refine Fun_cc [ctRl32] mo Tryz.func285 (by decide) cc285 rs285 Tryz.ntmps285 (by simp) ?_
  refine AW_run (ctRl32_ok CtOK_nil) 1000 ?_
  simp (maxSteps := 10000000) (disch := omega) only [go_sem, c285, ctRl32, reduceIte, seval, -BitVec.isValue, -BitVec.reduceOfNat, -List.reduceReplicate]
  simp
def ctRight : Nat × (List AV → R) := (285, A2 fun (x : W32) (n : Int) => (0 < n ∧ n < 32, .u32 (rotr x n.toNat)))
theorem ctRight_ok {Ct : List (Nat × (List AV → R))} (h : CtOK Tryz.prog Gs Ct) : CtOK Tryz.prog Gs (ctRight :: Ct) := CtOK_cons (Row2 fun x n h => right_fun x n h.1 h.2) h
theorem rrot_fun (x : W32) (n : BitVec 64) (h : n.toNat ≤ 32) : Fun Tryz.prog Gs 258 [Enc.enc x, Enc.enc n] (.u32 (rotr x n.toNat)) := by
  refine Fun_cc [] mo Tryz.func258 (by decide) cc258 rs258 Tryz.ntmps258 (by simp) ?_
  refine AW_run CtOK_nil 1000 ?_
  have e1 : ((32 : BitVec 64) - n).toNat = 32 - n.toNat := by rw [BitVec.toNat_sub]; simp; omega
  have e2 : (32#64 - n).toNat = 32 - n.toNat := e1
  simp (maxSteps := 10000000) (disch := omega) only [go_sem, c258, e1, e2, reduceIte, seval, -BitVec.isValue, -BitVec.reduceOfNat, -List.reduceReplicate]
  rfl
def ctRRot : Nat × (List AV → R) := (258, A2 fun (x : W32) (n : BitVec 64) => (n.toNat ≤ 32, .u32 (rotr x n.toNat)))
theorem ctRRot_ok {Ct : List (Nat × (List AV → R))} (h : CtOK Tryz.prog Gs Ct) : CtOK Tryz.prog Gs (ctRRot :: Ct) := CtOK_cons (Row2 fun x n h => rrot_fun x n h) h
end Go.Lv
namespace Go.Lv
open Go Go.Proofs
set_option linter.unusedSimpArgs false
set_option maxRecDepth 100000
theorem z64w : ([.u32 0, .u32 0, .u32 0, .u32 0, .u32 0, .u32 0, .u32 0, .u32 0, .u32 0, .u32 0, .u32 0, .u32 0, .u32 0, .u32 0, .u32 0, .u32 0, .u32 0, .u32 0, .u32 0, .u32 0, .u32 0, .u32 0, .u32 0, .u32 0, .u32 0, .u32 0, .u32 0, .u32 0, .u32 0, .u32 0, .u32 0, .u32 0, .u32 0, .u32 0, .u32 0, .u32 0, .u32 0, .u32 0, .u32 0, .u32 0, .u32 0, .u32 0, .u32 0, .u32 0, .u32 0, .u32 0, .u32 0, .u32 0, .u32 0, .u32 0, .u32 0, .u32 0, .u32 0, .u32 0, .u32 0, .u32 0, .u32 0, .u32 0, .u32 0, .u32 0, .u32 0, .u32 0, .u32 0, .u32 0] : List AV) = (List.replicate 64 (0 : W32)).map .u32 := rfl
theorem z64b : ([.u8 0, .u8 0, .u8 0, .u8 0, .u8 0, .u8 0, .u8 0, .u8 0, .u8 0, .u8 0, .u8 0, .u8 0, .u8 0, .u8 0, .u8 0, .u8 0, .u8 0, .u8 0, .u8 0, .u8 0, .u8 0, .u8 0, .u8 0, .u8 0, .u8 0, .u8 0, .u8 0, .u8 0, .u8 0, .u8 0, .u8 0, .u8 0, .u8 0, .u8 0, .u8 0, .u8 0, .u8 0, .u8 0, .u8 0, .u8 0, .u8 0, .u8 0, .u8 0, .u8 0, .u8 0, .u8 0, .u8 0, .u8 0, .u8 0, .u8 0, .u8 0, .u8 0, .u8 0, .u8 0, .u8 0, .u8 0, .u8 0, .u8 0, .u8 0, .u8 0, .u8 0, .u8 0, .u8 0, .u8 0] : List AV) = (List.replicate 64 (0 : BitVec 8)).map .u8 := rfl
theorem wK_succ (b : List (BitVec 8)) (t : Nat) : wK b (t + 1) = (wK b t).set t (wNew b (wK b t) t) := rfl
theorem wK_zero (b : List (BitVec 8)) : wK b 0 = List.replicate 64 0 := rfl
def σsd1 (b : List (BitVec 8)) (t : Nat) : St :=
  ⟨[(1, .ptr 0 0), (2, .ptr 1 0), (3, .ptr 2 0), (10, .i t)], [(0, ⟨b.map .u8, true⟩), (1, ⟨(List.replicate 64 (0 : W32)).map .u32, true⟩), (2, ⟨(wK b t).map .u32, true⟩)], 3⟩
def σsd2 (b : List (BitVec 8)) (t : Nat) : St :=
  ⟨[(1, .ptr 0 0), (2, .ptr 1 0), (3, .ptr 2 0), (5, .i t)], [(0, ⟨b.map .u8, true⟩), (1, ⟨(List.replicate 64 (0 : W32)).map .u32, true⟩), (2, ⟨(wK b t).map .u32, true⟩)], 3⟩
set_option maxHeartbeats 1000000 in
theorem schedule_fun (b : List (BitVec 8)) (hb : b.length = 64) : Fun Tryz.prog Gs 284 [Enc.enc (⟨b⟩ : Ar (BitVec 8))] (Enc.ret (⟨wK b 64⟩ : Ar W32)) := by
  refine Fun_cc [ctRight] mo Tryz.func284 (by decide) cc284 rs284 Tryz.ntmps284 (by simp) ?_
  have hct := ctRight_ok CtOK_nil
  refine AW_run hct 1000 ?_
  simp (maxSteps := 10000000) (disch := omega) only [go_sem, c284, z64w, hb, reduceIte, seval, -BitVec.isValue, -BitVec.reduceOfNat, -List.reduceReplicate]
  refine AW_loop (σsd1 b) (fun t => t ≤ 16) (fun t => 16 - t) 0 (Nat.zero_le _) (Wk_p [] ?_) fun t ht => ?_
  · simp only [go_sem, σsd1, wK_zero, reduceIte, seval, -BitVec.isValue, -BitVec.reduceOfNat, -List.reduceReplicate]
    try simp
  · refine AW_run hct 1000 ?_
    have hw := wK_len b t
    simp (maxSteps := 10000000) (disch := omega) only [go_sem, σsd1, reduceIte, seval, -BitVec.isValue, -BitVec.reduceOfNat, -List.reduceReplicate]
    refine run_br (fun hc => ?_) (fun hc => ?_)
    · have hlt : t < 16 := by have := of_decide_eq_true hc; omega
      have e0 : (4 * (t : Int)).toNat = 4 * t := by omega
      have e1 : (4 * (t : Int) + 1).toNat = 4 * t + 1 := by omega
      have e2 : (4 * (t : Int) + 2).toNat = 4 * t + 2 := by omega
      have e3 : (4 * (t : Int) + 3).toNat = 4 * t + 3 := by omega
      simp (maxSteps := 10000000) (disch := omega) only [go_sem, hb, hw, e0, e1, e2, e3, reduceIte, seval, -BitVec.isValue, -BitVec.reduceOfNat, -List.reduceReplicate]
      refine ⟨t + 1, by omega, Wk_p [] ?_, by omega⟩
      simp only [go_sem, wK_succ, wNew, if_pos hlt, be32, reduceIte, seval, -BitVec.isValue, -BitVec.reduceOfNat, -List.reduceReplicate]
      simp
    · have hge : t = 16 := by have := of_decide_eq_false hc; omega
      subst hge
      simp (maxSteps := 10000000) (disch := omega) only [go_sem, reduceIte, seval, -BitVec.isValue, -BitVec.reduceOfNat, -List.reduceReplicate]
      refine AW_loop (σsd2 b) (fun t => 16 ≤ t ∧ t ≤ 64) (fun t => 64 - t) 16 (by omega) (Wk_p [] ?_) fun t ht => ?_
      · simp only [go_sem, σsd2, reduceIte, seval, -BitVec.isValue, -BitVec.reduceOfNat, -List.reduceReplicate]
        try simp
      · refine AW_run hct 1000 ?_
        obtain ⟨h1, h2⟩ := ht
        have hw := wK_len b t
        simp (maxSteps := 10000000) (disch := omega) only [go_sem, σsd2, reduceIte, seval, -BitVec.isValue, -BitVec.reduceOfNat, -List.reduceReplicate]
        refine run_br (fun hc => ?_) (fun hc => ?_)
        · have hlt : t < 64 := by have := of_decide_eq_true hc; omega
          have e0 : ((t : Int) - 15).toNat = t - 15 := by omega
          have e1 : ((t : Int) - 2).toNat = t - 2 := by omega
          have e2 : ((t : Int) - 7).toNat = t - 7 := by omega
          have e3 : ((t : Int) - 16).toNat = t - 16 := by omega
          simp (maxSteps := 10000000) (disch := omega) only [go_sem, hw, e0, e1, e2, e3, ctRight, reduceIte, seval, -BitVec.isValue, -BitVec.reduceOfNat, -List.reduceReplicate]
          refine ⟨t + 1, by omega, Wk_p [] ?_, by omega⟩
          simp only [go_sem, wK_succ, wNew, if_neg (show ¬ t < 16 by omega), sg0, sg1, reduceIte, seval, -BitVec.isValue, -BitVec.reduceOfNat, -List.reduceReplicate]
          simp
        · have hge : t = 64 := by have := of_decide_eq_false hc; omega
          subst hge
          simp (maxSteps := 10000000) (disch := omega) only [go_sem, hw, reduceIte, seval, -BitVec.isValue, -BitVec.reduceOfNat, -List.reduceReplicate]
          simp [List.take_of_length_le, hw]
def ctSchedule : Nat × (List AV → R) := (284, A1 fun (b : Ar (BitVec 8)) => (b.l.length = 64, Enc.ret (⟨wK b.l 64⟩ : Ar W32)))
theorem ctSchedule_ok {Ct : List (Nat × (List AV → R))} (h : CtOK Tryz.prog Gs Ct) : CtOK Tryz.prog Gs (ctSchedule :: Ct) := CtOK_cons (Row1 fun b h => schedule_fun b.l h) h
end Go.Lv
namespace Go.Lv
open Go Go.Proofs
set_option linter.unusedSimpArgs false
set_option maxRecDepth 100000
def V8.of (l : List W32) : V8 := ⟨l.getD 0 0, l.getD 1 0, l.getD 2 0, l.getD 3 0, l.getD 4 0, l.getD 5 0, l.getD 6 0, l.getD 7 0⟩
theorem V8.of_l (v : V8) : V8.of v.l = v := rfl
theorem V8.l_of {l : List W32} (h : l.length = 8) : (V8.of l).l = l := by
  match l, h with
  | [a, b, c, d, e, f, g, i], _ => rfl
theorem V8.l_len (v : V8) : v.l.length = 8 := rfl
theorem K256_len : K256.length = 64 := rfl
theorem rdK_succ (s : V8) (w : List W32) (t : Nat) : rdK s w (t + 1) = rd (rdK s w t) (K256.getD t 0) (w.getD t 0) := rfl
def v8C (v : V8) : List AV := [.u32 v.a, .u32 v.b, .u32 v.c, .u32 v.d, .u32 v.e, .u32 v.f, .u32 v.g, .u32 v.h]
theorem v8C_eq (v : V8) : v.l.map AV.u32 = v8C v := rfl
def σc (s : V8) (b : List (BitVec 8)) (t : Nat) : St :=
  ⟨[(2, .ptr 0 0), (4, .ptr 2 0), (5, .ptr 3 0), (6, .u32 (rdK s (wK b 64) t).a), (7, .u32 (rdK s (wK b 64) t).b), (8, .u32 (rdK s (wK b 64) t).c), (9, .u32 (rdK s (wK b 64) t).d),
    (10, .u32 (rdK s (wK b 64) t).e), (11, .u32 (rdK s (wK b 64) t).f), (12, .u32 (rdK s (wK b 64) t).g), (13, .u32 (rdK s (wK b 64) t).h), (35, .i t)],
   [(0, ⟨v8C s, true⟩), (2, ⟨[.u32 0, .u32 0, .u32 0, .u32 0, .u32 0, .u32 0, .u32 0, .u32 0], true⟩), (3, ⟨(wK b 64).map .u32, true⟩)], 4⟩
set_option maxHeartbeats 2000000 in
theorem Compress_fun (s : V8) (b : List (BitVec 8)) (hb : b.length = 64) : Fun Tryz.prog Gs 280 [Enc.enc (⟨s.l⟩ : Ar W32), Enc.enc (⟨b⟩ : Ar (BitVec 8))] (Enc.ret (⟨(cmpS s b).l⟩ : Ar W32)) := by
  refine Fun_cc [ctSchedule, ctRight] mo Tryz.func280 (by decide) cc280 rs280 Tryz.ntmps280 (by simp) ?_
  have hct := ctSchedule_ok (ctRight_ok CtOK_nil)
  refine AW_run hct 1000 ?_
  have hw := wK_len b 64
  have hk := K256_len
  have hbt : b.take 64 = b := List.take_of_length_le (by omega)
  have hwt : (wK b 64).take 64 = wK b 64 := List.take_of_length_le (by omega)
  simp (maxSteps := 10000000) (disch := omega) only [go_sem, c280, v8C_eq, v8C, z64w, hb, hbt, hwt, ctSchedule, ctRight, hw, reduceIte, seval, -BitVec.isValue, -BitVec.reduceOfNat, -List.reduceReplicate]
  refine AW_loop (σc s b) (fun t => t ≤ 64) (fun t => 64 - t) 0 (Nat.zero_le _) (Wk_p [] ?_) fun t ht => ?_
  · simp only [go_sem, σc, rdK, v8C, reduceIte, seval, -BitVec.isValue, -BitVec.reduceOfNat, -List.reduceReplicate]
    simp [List.take_of_length_le, hw]
  · refine AW_ct [ctSchedule, ctRight] (AW_run hct 1000 ?_)
    obtain ⟨v, hv⟩ : ∃ v, v = rdK s (wK b 64) t := ⟨_, rfl⟩
    have hsu := rdK_succ s (wK b 64) t
    rw [← hv] at hsu
    simp (maxSteps := 10000000) (disch := omega) only [go_sem, σc, ← hv, v8C, reduceIte, seval, -BitVec.isValue, -BitVec.reduceOfNat, -List.reduceReplicate]
    refine run_br (fun hc => ?_) (fun hc => ?_)
    · have hlt : t < 64 := by have := of_decide_eq_true hc; omega
      simp (maxSteps := 10000000) (disch := omega) only [go_sem, hw, hk, ctRight, ctSchedule, reduceIte, seval, -BitVec.isValue, -BitVec.reduceOfNat, -List.reduceReplicate]
      refine ⟨t + 1, by omega, Wk_p [] ?_, by omega⟩
      simp only [go_sem, hsu, rd, rdX, rdY, S0, S1, chS, majS, v8C, reduceIte, seval, -BitVec.isValue, -BitVec.reduceOfNat, -List.reduceReplicate]
      simp
    · have hge : t = 64 := by have := of_decide_eq_false hc; omega
      subst hge
      simp (maxSteps := 10000000) (disch := omega) only [go_sem, hw, reduceIte, seval, -BitVec.isValue, -BitVec.reduceOfNat, -List.reduceReplicate]
      simp [cmpS, addV, ← hv, V8.l, Enc.ret]
def ctCompress : Nat × (List AV → R) := (280, A2 fun (s : Ar W32) (b : Ar (BitVec 8)) => (s.l.length = 8 ∧ b.l.length = 64, Enc.ret (⟨(cmpS (V8.of s.l) b.l).l⟩ : Ar W32)))
theorem ctCompress_ok {Ct : List (Nat × (List AV → R))} (h : CtOK Tryz.prog Gs Ct) : CtOK Tryz.prog Gs (ctCompress :: Ct) := CtOK_cons (Row2 fun s b h => by
  obtain ⟨s⟩ := s
  have := Compress_fun (V8.of s) b.l h.2
  rwa [V8.l_of h.1] at this) h
end Go.Lv
namespace Go.Lv
open Go Go.Proofs
set_option linter.unusedSimpArgs false
set_option maxRecDepth 100000
def shC (v : V8) (r : List (BitVec 8)) (n tot : Int) : List AV := .b true :: (v8C v ++ (r.map .u8 ++ [.i n, .i tot]))
section
variable {v : V8} {r : List (BitVec 8)} {n tot : Int}
theorem shC_len (h : r.length = 64) : (shC v r n tot).length = 75 := by simp [shC, v8C, h]
theorem shC_d1 : (shC v r n tot).drop 1 = v8C v ++ (r.map .u8 ++ [.i n, .i tot]) := rfl
theorem shC_d9 : (shC v r n tot).drop 9 = r.map .u8 ++ [.i n, .i tot] := rfl
theorem shC_d73 (h : r.length = 64) : (shC v r n tot).drop 73 = [.i n, .i tot] := by
  show (r.map AV.u8 ++ [AV.i n, AV.i tot]).drop 64 = _
  rw [List.drop_left' (by simpa using h)]
theorem shC_d74 (h : r.length = 64) : (shC v r n tot).drop 74 = [.i tot] := by
  rw [show 74 = 73 + 1 by rfl, ← List.drop_drop, shC_d73 h]; rfl
theorem shC_t1 : (shC v r n tot).take 1 = [.b true] := rfl
theorem shC_g73 (h : r.length = 64) : (shC v r n tot).getD 73 .junk = .i n := by
  have := congrArg (fun l => l.getD 0 AV.junk) (shC_d73 (v := v) (n := n) (tot := tot) h)
  simpa [List.getD_eq_getElem?_getD] using this
theorem shC_g74 (h : r.length = 64) : (shC v r n tot).getD 74 .junk = .i tot := by
  have := congrArg (fun l => l.getD 0 AV.junk) (shC_d74 (v := v) (n := n) (tot := tot) h)
  simpa [List.getD_eq_getElem?_getD] using this
theorem shC_s73 (h : r.length = 64) (m : Int) : (shC v r n tot).set 73 (.i m) = shC v r m tot := by
  show AV.b true :: (v8C v ++ (r.map AV.u8 ++ [AV.i n, AV.i tot])).set 72 (.i m) = _
  rw [shC, List.set_append_right _ _ (by simp [v8C]), show 72 - (v8C v).length = 64 by rfl, List.set_append_right _ _ (by simp [h]), List.length_map, h]; rfl
theorem shC_s74 (h : r.length = 64) (m : Int) : (shC v r n tot).set 74 (.i m) = shC v r n m := by
  show AV.b true :: (v8C v ++ (r.map AV.u8 ++ [AV.i n, AV.i tot])).set 73 (.i m) = _
  rw [shC, List.set_append_right _ _ (by simp [v8C]), show 73 - (v8C v).length = 65 by rfl, List.set_append_right _ _ (by simp [h]), List.length_map, h]; rfl
theorem shC_spc (h : r.length = 64) (k : Nat) (x : List (BitVec 8)) (hk : k + x.length ≤ 64) : spc (shC v r n tot) (9 + k) (x.map .u8) = shC v (r.take k ++ x ++ r.drop (k + x.length)) n tot := by
  have e1 : (shC v r n tot).take (9 + k) = .b true :: (v8C v ++ (r.take k).map .u8) := by
    show List.take (9 + k) (AV.b true :: (v8C v ++ (r.map AV.u8 ++ [AV.i n, AV.i tot]))) = _
    rw [show 9 + k = (8 + k) + 1 by omega, List.take_succ_cons, List.take_append, show (v8C v).length = 8 by rfl, List.take_of_length_le (show (v8C v).length ≤ 8 + k by show 8 ≤ 8 + k; omega), show 8 + k - 8 = k by omega, List.take_append_of_le_length (by simp [h]; omega), List.map_take]
  have e2 : (shC v r n tot).drop (9 + k + x.length) = (r.drop (k + x.length)).map .u8 ++ [.i n, .i tot] := by
    rw [show 9 + k + x.length = 9 + (k + x.length) by omega, ← List.drop_drop, shC_d9, List.drop_append_of_le_length (by simp [h]; omega), List.map_drop]
  simp only [spc, List.length_map]
  rw [e1, e2]
  simp [shC]
theorem shC_w (w : V8) : AV.b true :: (v8C w ++ (r.map .u8 ++ [.i n, .i tot])) = shC w r n tot := rfl
theorem shC_t8 (X : List AV) : (v8C v ++ X).take 8 = v8C v := rfl
theorem shC_t64 (h : r.length = 64) (X : List AV) : (r.map AV.u8 ++ X).take 64 = r.map .u8 := by rw [List.take_left' (by simpa using h)]
theorem v8C_ok : okL W32 (v8C v) = True := by simp [v8C, okL, ok_32]
theorem v8C_de : deL W32 (v8C v) = v.l := rfl
theorem v8C_len : (v8C v).length = 8 := rfl
theorem v8C_fz (H : List (Nat × Seg)) (k : Nat) (fl : Bool) : (v8C v).map (frz H (k + 1) fl) = v8C v := rfl
theorem v8C_own : own.ownL (v8C v) = false := rfl
theorem v8C_cln : cln.clnL (v8C v) = true := rfl
theorem v8C_ren (m : List (Nat × Nat)) : ren.renL m (v8C v) = v8C v := rfl
theorem v8C_idk (k : Nat) : idk.idkL k (v8C v) = True := by simp [v8C, idk.idkL, idk]
theorem shC_own : own.ownL (shC v r n tot) = false := by simp [shC, v8C, own.ownL, own, own_app, o_8]
theorem shC_ren (m : List (Nat × Nat)) : ren.renL m (shC v r n tot) = shC v r n tot := by simp [shC, v8C, ren.renL, ren, ren_app, e_8]
theorem shC_idk (k : Nat) : idk.idkL k (shC v r n tot) = True := by simp [shC, v8C, idk.idkL, idk, idk_app, k_8]
end
theorem New_funG : FunG Tryz.prog Gs 242 [] [] (.ptr 0 0) [(0, ⟨shC H256 (List.replicate 64 0) 0 0, true⟩)] := by
  refine FunG_cc [] [] 0 mo Tryz.func242 (by decide) cc242 rs242 Tryz.ntmps242 (by simp) rfl (by simp) rfl ?_
  refine AW_run CtOK_nil 1000 ?_
  simp (maxSteps := 10000000) (disch := omega) only [go_sem, c242, v8C_eq, v8C, reduceIte, seval, -BitVec.isValue, -BitVec.reduceOfNat, -List.reduceReplicate]
  try simp [RetG, rv, rvO, subG, lkf, shC, v8C]
def σput (b : List (BitVec 8)) (s : Sh) (tot : Int) (m : Nat) : St :=
  ⟨[(0, .ptr 0 0), (1, Enc.enc (b.drop m))], [(0, ⟨shC (hput s (b.take m)).v (hput s (b.take m)).r (hput s (b.take m)).n tot, false⟩)], 1⟩
set_option maxHeartbeats 2000000 in
theorem hput_funG (s : Sh) (hs : s.ok) (tot : Int) (b : List (BitVec 8)) (hb : b.length ≤ 140737488351232) (ht : 0 ≤ tot) (ht2 : tot + b.length ≤ 9223372036854775807) :
    FunG Tryz.prog Gs 271 [.ptr 0 0, Enc.enc b] [(0, ⟨shC s.v s.r s.n tot, false⟩)] (.tup []) [(0, ⟨shC (hput s b).v (hput s b).r (hput s b).n (tot + b.length), false⟩)] := by
  refine FunG_cc [ctCompress] [0] 1 mo Tryz.func271 (by decide) cc271 rs271 Tryz.ntmps271 (by simp) rfl (by decide) rfl ?_
  have hct := ctCompress_ok CtOK_nil
  refine AW_run hct 1000 ?_
  have hr := hs.1
  simp (maxSteps := 10000000) (disch := omega) only [go_sem, c271, shC_len hr, shC_g74 hr, shC_s74 hr, reduceIte, seval, -BitVec.isValue, -BitVec.reduceOfNat, -List.reduceReplicate]
  refine AW_loop (σput b s (tot + b.length)) (fun m => m ≤ b.length) (fun m => b.length - m) 0 (Nat.zero_le _) (Wk_d [] (dom0 rfl) ?_) fun m hm => ?_
  · simp only [go_sem, σput, hput_nil, shC_ren, shC_idk, reduceIte, seval, -BitVec.isValue, -BitVec.reduceOfNat, -List.reduceReplicate]
    try simp
  · refine AW_ct [ctCompress] (AW_run hct 1000 ?_)
    obtain ⟨s', hs'⟩ : ∃ s', s' = hput s (b.take m) := ⟨_, rfl⟩
    have hok := hput_ok hs (b.take m)
    rw [← hs'] at hok
    have hr' := hok.1
    have hn' := hok.2
    simp (maxSteps := 10000000) (disch := omega) only [go_sem, σput, ← hs', List.length_drop, reduceIte, seval, -BitVec.isValue, -BitVec.reduceOfNat, -List.reduceReplicate]
    refine run_br (fun hc => ?_) (fun hc => ?_)
    · have hlt : m < b.length := by have := of_decide_eq_true hc; omega
      have hsp := shC_spc (v := s'.v) (n := (s'.n : Int)) (tot := tot + b.length) hr' s'.n
      by_cases hf : 64 - s'.n ≤ b.length - m
      · have hx : ((b.drop m).take (64 - s'.n)).length = 64 - s'.n := by simp; omega
        have hsp := hsp ((b.drop m).take (64 - s'.n)) (by omega)
        obtain ⟨r1, hr1⟩ : ∃ r1, r1 = s'.r.take s'.n ++ (b.drop m).take (64 - s'.n) ++ s'.r.drop (s'.n + ((b.drop m).take (64 - s'.n)).length) := ⟨_, rfl⟩
        rw [← hr1] at hsp
        simp only [spc, List.length_map, hx] at hsp
        have hif : (if b.length - m ≤ 64 - s'.n then b.length - m else 64 - s'.n) = 64 - s'.n := by split <;> omega
        have hmin : min (64 - s'.n) (b.length - m) = 64 - s'.n := by omega
        have hl1 : r1.length = 64 := by rw [hr1]; simp; omega
        have e64 : ((s'.n : Int) + ((64 - s'.n : Nat) : Int)) = 64 := by omega
        simp (maxSteps := 10000000) (disch := omega) only [go_sem, shC_len hr', shC_g73 hr', shC_d9, shC_d1, shC_t1, shC_t8, shC_t64 hl1, List.length_drop, hif, hmin, hsp, hx, shC_len hl1, shC_g73 hl1, shC_s73 hl1, e64, v8C_eq, v8C_ok, v8C_de, v8C_fz, v8C_own, v8C_cln, v8C_len, V8.of_l, V8.l_len, shC_w, hl1, ctCompress, reduceIte, seval, -BitVec.isValue, -BitVec.reduceOfNat, -List.reduceReplicate]
        have hadd : b.take (m + (64 - s'.n)) = b.take m ++ (b.drop m).take (64 - s'.n) := by rw [List.take_add]
        have hr1' : r1 = s'.r.take s'.n ++ (b.drop m).take (64 - s'.n) := by
          rw [hr1, hx, List.drop_eq_nil_of_le (show s'.r.length ≤ s'.n + (64 - s'.n) by omega), List.append_nil]
        have hstep : hput s (b.take (m + (64 - s'.n))) = ⟨cmpS s'.v r1, r1, 0⟩ := by
          rw [hadd, hput_app, ← hs', hput_full _ s' hok (by omega) (by intro e; rw [e] at hx; simp at hx; omega), ← hr1']
        refine ⟨m + (64 - s'.n), by omega, Wk_d [] (dom0 rfl) ?_, by omega⟩
        have e1 : b.length - m - (64 - s'.n) = b.length - (m + (64 - s'.n)) := by omega
        have e2 : List.take (b.length - (m + (64 - s'.n))) (List.drop (m + (64 - s'.n)) b) = List.drop (m + (64 - s'.n)) b := List.take_of_length_le (by simp)
        simp only [go_sem, hstep, shC_ren, shC_idk, e1, e2, List.drop_drop, reduceIte, seval, -BitVec.isValue, -BitVec.reduceOfNat, -List.reduceReplicate]
        try simp
      · obtain ⟨k, hk⟩ : ∃ k, k = b.length - m := ⟨_, rfl⟩
        have hx : (b.drop m).length = k := by simp; omega
        have hxt : (b.drop m).take k = b.drop m := List.take_of_length_le (by omega)
        have hsp := hsp (b.drop m) (by omega)
        obtain ⟨r1, hr1⟩ : ∃ r1, r1 = s'.r.take s'.n ++ b.drop m ++ s'.r.drop (s'.n + (b.drop m).length) := ⟨_, rfl⟩
        rw [← hr1] at hsp
        simp only [spc, List.length_map, hx] at hsp
        have hif : (if k ≤ 64 - s'.n then k else 64 - s'.n) = k := by rw [if_pos (by omega)]
        have hl1 : r1.length = 64 := by rw [hr1]; simp; omega
        have e64 : ¬ ((s'.n : Int) + (k : Int) = 64) := by omega
        have hk0 : 0 < k := by omega
        simp (maxSteps := 10000000) (disch := omega) only [go_sem, ← hk, shC_len hr', shC_g73 hr', shC_d9, shC_d1, shC_t1, shC_t8, shC_t64 hl1, List.length_drop, hif, Nat.min_self, hxt, hsp, hx, shC_len hl1, shC_g73 hl1, shC_s73 hl1, e64, v8C_eq, shC_w, hl1, reduceIte, seval, -BitVec.isValue, -BitVec.reduceOfNat, -List.reduceReplicate]
        have hstep : hput s b = ⟨s'.v, r1, s'.n + k⟩ := by
          rw [← List.take_append_drop m b, hput_app, ← hs', hput_few _ s' hok (by omega), ← hr1, hx]
        refine ⟨b.length, by omega, Wk_d [] (dom0 rfl) ?_, by omega⟩
        have e2 : ((s'.n : Int) + (k : Int)) = ((s'.n + k : Nat) : Int) := by omega
        simp only [go_sem, List.take_length, hstep, shC_ren, shC_idk, e2, List.drop_drop, reduceIte, seval, -BitVec.isValue, -BitVec.reduceOfNat, -List.reduceReplicate]
        try simp
        try omega
    · have hge : m = b.length := by have := of_decide_eq_false hc; omega
      subst hge
      rw [List.take_length] at hs'
      simp (maxSteps := 10000000) (disch := omega) only [go_sem, reduceIte, seval, -BitVec.isValue, -BitVec.reduceOfNat, -List.reduceReplicate]
      simp [hs']
end Go.Lv
namespace Go.Lv
open Go Go.Proofs
set_option linter.unusedSimpArgs false
set_option maxRecDepth 100000
theorem shC_fz {v : V8} {r : List (BitVec 8)} {n tot : Int} (H : List (Nat × Seg)) (k : Nat) (fl : Bool) : (shC v r n tot).map (frz H (k + 1) fl) = shC v r n tot := by
  have : (r.map AV.u8).map (frz H (k + 1) fl) = r.map .u8 := z_8 H k fl r
  simp only [shC, List.map_cons, List.map_append, this, v8C_fz, List.map_nil, frz]
def notT : List AV → R
  | [] => (False, .junk)
  | x :: xs => match xs with
    | _ :: _ => (False, .junk)
    | [] => match x with
      | .rop _ cs => match cs with
        | [] => (False, .junk)
        | y :: _ => match y with
          | .b m => (True, .b (!m))
          | _ => (False, .junk)
      | _ => (False, .junk)
theorem notT_sh (f : Bool) (v : V8) (r : List (BitVec 8)) (n tot : Int) : notT [.rop f (shC v r n tot)] = (True, .b false) := rfl
theorem hnone_fun (f m : Bool) (cs : List AV) : Fun Tryz.prog Gs 270 [.rop f (.b m :: cs)] (.b (!m)) := by
  refine Fun_cc [] mo Tryz.func270 (by decide) cc270 rs270 Tryz.ntmps270 (by simp) ?_
  refine AW_run CtOK_nil 1000 ?_
  simp (maxSteps := 10000000) (disch := omega) only [go_sem, c270, reduceIte, seval, -BitVec.isValue, -BitVec.reduceOfNat, -List.reduceReplicate]
def ctHnone : Nat × (List AV → R) := (270, notT)
theorem hnone_row : Row Tryz.prog Gs 270 notT := by
  intro l hl
  match l, hl with
  | [x], hl =>
    cases x <;> simp only [notT] at hl ⊢ <;> try exact hl.elim
    case rop fr cs =>
      match cs, hl with
      | y :: cs, hl =>
        cases y <;> simp only at hl ⊢ <;> try exact hl.elim
        exact hnone_fun _ _ _
theorem ctHnone_ok {Ct : List (Nat × (List AV → R))} (h : CtOK Tryz.prog Gs Ct) : CtOK Tryz.prog Gs (ctHnone :: Ct) := CtOK_cons hnone_row h
theorem flat_at (ps : List (List (BitVec 8))) (j : Nat) (h : j < ps.length) : (ps.take (j + 1)).flatten = (ps.take j).flatten ++ ps.getD j [] := by
  rw [List.take_succ_eq_append_getElem h, List.flatten_append]; simp [List.getD_eq_getElem?_getD, h]
theorem flat_le (ps : List (List (BitVec 8))) (j : Nat) : (ps.take j).flatten.length ≤ ps.flatten.length := by
  conv => rhs; rw [← List.take_append_drop j ps, List.flatten_append, List.length_append]
  omega
def σhw (ps : List (List (BitVec 8))) (s : Sh) (tot : Int) (j : Nat) : St :=
  ⟨[(0, .ptr 0 0), (9, Enc.enc ps), (10, .i ps.length), (11, .i j)], [(0, ⟨shC (hput s (ps.take j).flatten).v (hput s (ps.take j).flatten).r (hput s (ps.take j).flatten).n (tot + (ps.take j).flatten.length), false⟩)], 1⟩
set_option maxHeartbeats 2000000 in
theorem hWrite_funG (s : Sh) (hs : s.ok) (tot : Int) (ps : List (List (BitVec 8))) (hp : ps.length ≤ 140737488351232) (hq : ∀ x ∈ ps, x.length ≤ 140737488351232) (ht : 0 ≤ tot) (ht2 : tot + ps.flatten.length ≤ 9223372036854775807) :
    FunG Tryz.prog Gs 243 [.ptr 0 0, Enc.enc ps] [(0, ⟨shC s.v s.r s.n tot, false⟩)] (.i 0) [(0, ⟨shC (hput s ps.flatten).v (hput s ps.flatten).r (hput s ps.flatten).n (tot + ps.flatten.length), false⟩)] := by
  refine FunG_cc [ctHnone] [0] 1 mo Tryz.func243 (by decide) cc243 rs243 Tryz.ntmps243 (by simp) rfl (by decide) rfl ?_
  have hct := ctHnone_ok CtOK_nil
  refine AW_run hct 1000 ?_
  have hr := hs.1
  simp (maxSteps := 10000000) (disch := omega) only [go_sem, c243, shC_len hr, shC_fz, shC_own, ctHnone, notT_sh, reduceIte, seval, -BitVec.isValue, -BitVec.reduceOfNat, -List.reduceReplicate]
  refine AW_loop (σhw ps s tot) (fun j => j ≤ ps.length) (fun j => ps.length - j) 0 (Nat.zero_le _) (Wk_d [] (dom0 rfl) ?_) fun j hj => ?_
  · simp only [go_sem, σhw, List.take_zero, List.flatten_nil, hput_nil, shC_ren, shC_idk, reduceIte, seval, -BitVec.isValue, -BitVec.reduceOfNat, -List.reduceReplicate]
    simp
  · refine AW_ct [ctHnone] (AW_run hct 1000 ?_)
    obtain ⟨s', hs'⟩ : ∃ s', s' = hput s (ps.take j).flatten := ⟨_, rfl⟩
    have hok := hput_ok hs (ps.take j).flatten
    rw [← hs'] at hok
    have hr' := hok.1
    simp (maxSteps := 10000000) (disch := omega) only [go_sem, σhw, ← hs', reduceIte, seval, -BitVec.isValue, -BitVec.reduceOfNat, -List.reduceReplicate]
    refine run_br (fun hc => ?_) (fun hc => ?_)
    · have hlt : j < ps.length := by have := of_decide_eq_true hc; omega
      have hql : (ps.getD j []).length ≤ 140737488351232 := hq _ (by simp [List.getD_eq_getElem?_getD, hlt])
      have hfa := flat_at ps j hlt
      have hfl := congrArg List.length hfa
      rw [List.length_append] at hfl
      have hle := flat_le ps (j + 1)
      have hr2 := (hput_ok hok (ps.getD j [])).1
      simp (maxSteps := 10000000) (disch := omega) only [go_sem, reduceIte, seval, -BitVec.isValue, -BitVec.reduceOfNat, -List.reduceReplicate]
      refine AW_callG [(0, 0)] [] 1 [] false (by simp only [go_sem, reduceIte, seval, -BitVec.isValue, -BitVec.reduceOfNat, -List.reduceReplicate]) (by simp only [go_sem, reduceIte, seval, -BitVec.isValue, -BitVec.reduceOfNat, -List.reduceReplicate]) (hput_funG s' hok (tot + (ps.take j).flatten.length) (ps.getD j []) hql (by omega) (by omega)) (by rfl) (.inr rfl) (by simp only [go_sem, reduceIte, seval, -BitVec.isValue, -BitVec.reduceOfNat, -List.reduceReplicate]) (by rfl) (by simp only [go_sem, reduceIte, seval, -BitVec.isValue, -BitVec.reduceOfNat, -List.reduceReplicate]) (by simp only [go_sem, shC_own, shC_fz, shC_len hr', shC_len hr2, reduceIte, seval, -BitVec.isValue, -BitVec.reduceOfNat, -List.reduceReplicate]) (by simp only [go_sem, reduceIte, seval, -BitVec.isValue, -BitVec.reduceOfNat, -List.reduceReplicate]) (by simp only [go_sem, shC, v8C, reduceIte, seval, -BitVec.isValue, -BitVec.reduceOfNat, -List.reduceReplicate]) ?_
      refine AW_ct [ctHnone] (AW_run hct 1000 ?_)
      simp (maxSteps := 10000000) (disch := omega) only [go_sem, shC_ren, reduceIte, seval, -BitVec.isValue, -BitVec.reduceOfNat, -List.reduceReplicate]
      refine ⟨j + 1, by omega, Wk_d [] (dom0 rfl) ?_, by omega⟩
      simp only [go_sem, shC_ren, shC_idk, hfa, hput_app, ← hs', reduceIte, seval, -BitVec.isValue, -BitVec.reduceOfNat, -List.reduceReplicate]
      refine ⟨by simp, ?_⟩
      congr 1
      omega
    · have hge : j = ps.length := by have := of_decide_eq_false hc; omega
      subst hge
      rw [List.take_length] at hs'
      simp (maxSteps := 10000000) (disch := omega) only [go_sem, reduceIte, seval, -BitVec.isValue, -BitVec.reduceOfNat, -List.reduceReplicate]
      simp [hs']
end Go.Lv
namespace Go.Lv
open Go Go.Proofs
set_option linter.unusedSimpArgs false
set_option maxRecDepth 100000
def zSh : List AV := [.b false, .u32 0, .u32 0, .u32 0, .u32 0, .u32 0, .u32 0, .u32 0, .u32 0, .u8 0, .u8 0, .u8 0, .u8 0, .u8 0, .u8 0, .u8 0, .u8 0, .u8 0, .u8 0, .u8 0, .u8 0, .u8 0, .u8 0, .u8 0, .u8 0, .u8 0, .u8 0, .u8 0, .u8 0, .u8 0, .u8 0, .u8 0, .u8 0, .u8 0, .u8 0, .u8 0, .u8 0, .u8 0, .u8 0, .u8 0, .u8 0, .u8 0, .u8 0, .u8 0, .u8 0, .u8 0, .u8 0, .u8 0, .u8 0, .u8 0, .u8 0, .u8 0, .u8 0, .u8 0, .u8 0, .u8 0, .u8 0, .u8 0, .u8 0, .u8 0, .u8 0, .u8 0, .u8 0, .u8 0, .u8 0, .u8 0, .u8 0, .u8 0, .u8 0, .u8 0, .u8 0, .u8 0, .u8 0, .i 0, .i 0]
theorem zSh_eq : ([.b false, .u32 0, .u32 0, .u32 0, .u32 0, .u32 0, .u32 0, .u32 0, .u32 0, .u8 0, .u8 0, .u8 0, .u8 0, .u8 0, .u8 0, .u8 0, .u8 0, .u8 0, .u8 0, .u8 0, .u8 0, .u8 0, .u8 0, .u8 0, .u8 0, .u8 0, .u8 0, .u8 0, .u8 0, .u8 0, .u8 0, .u8 0, .u8 0, .u8 0, .u8 0, .u8 0, .u8 0, .u8 0, .u8 0, .u8 0, .u8 0, .u8 0, .u8 0, .u8 0, .u8 0, .u8 0, .u8 0, .u8 0, .u8 0, .u8 0, .u8 0, .u8 0, .u8 0, .u8 0, .u8 0, .u8 0, .u8 0, .u8 0, .u8 0, .u8 0, .u8 0, .u8 0, .u8 0, .u8 0, .u8 0, .u8 0, .u8 0, .u8 0, .u8 0, .u8 0, .u8 0, .u8 0, .u8 0, .i 0, .i 0] : List AV) = zSh := rfl
theorem zSh_len : zSh.length = 75 := rfl
theorem zSh_d75 : zSh.drop 75 = [] := rfl
theorem z32b : ([.u8 0, .u8 0, .u8 0, .u8 0, .u8 0, .u8 0, .u8 0, .u8 0, .u8 0, .u8 0, .u8 0, .u8 0, .u8 0, .u8 0, .u8 0, .u8 0, .u8 0, .u8 0, .u8 0, .u8 0, .u8 0, .u8 0, .u8 0, .u8 0, .u8 0, .u8 0, .u8 0, .u8 0, .u8 0, .u8 0, .u8 0, .u8 0] : List AV) = (List.replicate 32 (0 : BitVec 8)).map .u8 := rfl
theorem shC_l8 {v : V8} {r : List (BitVec 8)} {n tot : Int} : ((shC v r n tot).drop 1).take 8 = v.l.map .u32 := rfl
theorem shC_t75 {v : V8} {r : List (BitVec 8)} {n tot : Int} (h : r.length = 64) : (shC v r n tot).take 75 = shC v r n tot := List.take_of_length_le (by rw [shC_len h]; omega)
def outK (v : V8) (i : Nat) : List (BitVec 8) := (v.l.take i).flatMap (fun w => bigL (w.setWidth 64) 4) ++ List.replicate (32 - 4 * i) 0
theorem outK_zero (v : V8) : outK v 0 = List.replicate 32 0 := rfl
theorem outK_all (v : V8) : outK v 8 = outV v := by simp [outK, outV, V8.l]
theorem fm_len (f : W32 → List (BitVec 8)) (hf : ∀ w, (f w).length = 4) : ∀ l : List W32, (l.flatMap f).length = 4 * l.length
  | [] => rfl
  | w :: l => by rw [List.flatMap_cons, List.length_append, fm_len f hf l, hf, List.length_cons]; omega
theorem outK_pre (v : V8) (i : Nat) (hi : i ≤ 8) : ((v.l.take i).flatMap (fun w => bigL (w.setWidth 64) 4)).length = 4 * i := by
  rw [fm_len _ (fun w => bigL_len _ _), List.length_take, V8.l_len]; omega
theorem outK_len (v : V8) (i : Nat) (hi : i ≤ 8) : (outK v i).length = 32 := by
  rw [outK, List.length_append, outK_pre v i hi, List.length_replicate]; omega
theorem outK_succ (v : V8) (i : Nat) (hi : i < 8) : (outK v i).take (4 * i) ++ (bigL ((v.l.getD i 0).setWidth 64) 4 ++ (outK v i).drop (4 * i + 4)) = outK v (i + 1) := by
  have h1 := outK_pre v i (by omega)
  have e1 : (outK v i).take (4 * i) = (v.l.take i).flatMap (fun w => bigL (w.setWidth 64) 4) := by rw [outK, List.take_left' h1]
  have e2 : (outK v i).drop (4 * i + 4) = List.replicate (32 - 4 * (i + 1)) 0 := by
    rw [outK, ← List.drop_drop, List.drop_left' h1, List.drop_replicate]; congr 1
  have e3 : v.l.take (i + 1) = v.l.take i ++ [v.l.getD i 0] := by
    rw [List.take_succ_eq_append_getElem (by rw [V8.l_len]; exact hi)]
    simp [List.getD_eq_getElem?_getD, show i < v.l.length from hi]
  rw [e1, e2, outK, e3, List.flatMap_append]
  simp
def tailS (tot : Nat) : List (BitVec 8) := [(128 : BitVec 8)] ++ List.replicate (zpad tot) (0 : BitVec 8) ++ bigL (8#64 * BitVec.ofNat 64 tot) 8
def endS (s : Sh) (tot : Nat) : Sh := hput s (tailS tot)
theorem sum_spec (t : List (BitVec 8)) : outV (endS (hput sh0 t) t.length).v = sha256S t := by
  rw [endS, ← hput_app, sha256S, padS, tailS]; simp only [List.append_assoc]; rfl
def zK (s : Sh) (j : Nat) : Sh := hput s ((128 : BitVec 8) :: List.replicate j (0 : BitVec 8))
theorem zK_succ (s : Sh) (j : Nat) : zK s (j + 1) = hput (zK s j) [(0 : BitVec 8)] := by
  rw [zK, zK, ← hput_app, List.replicate_succ', List.cons_append]
theorem zK_ok {s : Sh} (h : s.ok) (j : Nat) : (zK s j).ok := hput_ok h _
theorem zK_n {s : Sh} (h : s.ok) (tot j : Nat) (hn : s.n = tot % 64) : (zK s j).n = (tot + 1 + j) % 64 := by
  rw [zK, hput_n s h, hn, List.length_cons, List.length_replicate]; omega
theorem zK_all (s : Sh) (tot : Nat) : hput (zK s (zpad tot)) (bigL (8#64 * BitVec.ofNat 64 tot) 8) = endS s tot := by
  rw [zK, endS, ← hput_app, tailS]; simp
def σz (s : Sh) (tot j : Nat) : St :=
  ⟨[(2, .ptr 0 0), (3, .ptr 1 0), (4, .ptr 2 0), (5, .u64 (8#64 * BitVec.ofNat 64 tot))],
   [(0, ⟨(List.replicate 32 (0 : BitVec 8)).map .u8, true⟩), (1, ⟨(List.replicate 32 (0 : BitVec 8)).map .u8, true⟩), (2, ⟨shC (zK s j).v (zK s j).r (zK s j).n (tot + 1 + j : Nat), true⟩)], 3⟩
def σo (v : V8) (i : Nat) : St :=
  ⟨[(2, .ptr 0 0), (3, .ptr 1 0), (31, .agg (v.l.map .u32)), (32, .i i)], [(0, ⟨(List.replicate 32 (0 : BitVec 8)).map .u8, true⟩), (1, ⟨(outK v i).map .u8, true⟩)], 2⟩
def ctU32 : Nat × (List AV → R) := (86, A1 fun n : W32 => (True, Enc.ret (bigL (n.setWidth 64) 4)))
def ctU64 : Nat × (List AV → R) := (272, A1 fun n : BitVec 64 => (True, Enc.ret (bigL n 8)))
theorem U32_fun (n : W32) : Fun Tryz.prog Gs 86 [Enc.enc n] (Enc.ret (bigL (n.setWidth 64) 4)) := by
  refine Fun_cc [(135, A2 fun (n : BitVec 64) (k : Int) => (0 ≤ k ∧ k ≤ 1000000, Enc.ret (bigL n k.toNat)))] mo Tryz.func86 (by decide) cc86 rs86 Tryz.ntmps86 (by simp) ?_
  refine AW_run (CtOK_cons (Row2 fun n k h => by
    obtain ⟨k, rfl⟩ := Int.eq_ofNat_of_zero_le h.1
    exact big_fun n k (by omega)) CtOK_nil) 1000 ?_
  simp (maxSteps := 10000000) (disch := omega) only [go_sem, c86, reduceIte, seval, -BitVec.isValue, -BitVec.reduceOfNat, -List.reduceReplicate]
theorem U64_fun (n : BitVec 64) : Fun Tryz.prog Gs 272 [Enc.enc n] (Enc.ret (bigL n 8)) := by
  refine Fun_cc [(135, A2 fun (n : BitVec 64) (k : Int) => (0 ≤ k ∧ k ≤ 1000000, Enc.ret (bigL n k.toNat)))] mo Tryz.func272 (by decide) cc272 rs272 Tryz.ntmps272 (by simp) ?_
  refine AW_run (CtOK_cons (Row2 fun n k h => by
    obtain ⟨k, rfl⟩ := Int.eq_ofNat_of_zero_le h.1
    exact big_fun n k (by omega)) CtOK_nil) 1000 ?_
  simp (maxSteps := 10000000) (disch := omega) only [go_sem, c272, reduceIte, seval, -BitVec.isValue, -BitVec.reduceOfNat, -List.reduceReplicate]
theorem ctU32_ok {Ct : List (Nat × (List AV → R))} (h : CtOK Tryz.prog Gs Ct) : CtOK Tryz.prog Gs (ctU32 :: Ct) := CtOK_cons (Row1 fun n _ => U32_fun n) h
theorem ctU64_ok {Ct : List (Nat × (List AV → R))} (h : CtOK Tryz.prog Gs Ct) : CtOK Tryz.prog Gs (ctU64 :: Ct) := CtOK_cons (Row1 fun n _ => U64_fun n) h
set_option maxHeartbeats 4000000 in
theorem Sum_fun (f : Bool) (s : Sh) (hs : s.ok) (tot : Nat) (hn : s.n = tot % 64) (ht : tot ≤ 4611686018427387904) : Fun Tryz.prog Gs 245 [.rop f (shC s.v s.r s.n tot)] (Enc.ret (⟨outV (endS s tot).v⟩ : Ar (BitVec 8))) := by
  refine Fun_cc [ctHnone, mark 20, mark 25, ctU32, ctU64] mo Tryz.func245 (by decide) cc245 rs245 Tryz.ntmps245 (by simp) ?_
  have hct := ctHnone_ok (mark_ok 20 (mark_ok 25 (ctU32_ok (ctU64_ok CtOK_nil))))
  refine AW_run hct 1000 ?_
  have hr := hs.1
  have hr1 := (hput_ok hs [(128 : BitVec 8)]).1
  have hoi : BitVec.ofInt 64 (tot : Int) = BitVec.ofNat 64 tot := by simp
  simp (maxSteps := 10000000) (disch := omega) only [go_sem, c245, shC_len hr, shC_fz, shC_own, ctHnone, mark, ctU32, ctU64, notT_sh, z32b, zSh_eq, zSh_len, zSh_d75, shC_t75 hr, shC_g74 hr, shC_d74 hr, hoi, reduceIte, seval, -BitVec.isValue, -BitVec.reduceOfNat, -List.reduceReplicate]
  refine AW_callG [(0, 2)] [] 4 [] false (by simp only [go_sem, reduceIte, seval, -BitVec.isValue, -BitVec.reduceOfNat, -List.reduceReplicate]) (by simp only [go_sem, reduceIte, seval, -BitVec.isValue, -BitVec.reduceOfNat, -List.reduceReplicate]) (hput_funG s hs tot [(128 : BitVec 8)] (by simp) (by omega) (by simp; omega)) (by rfl) (.inr rfl) (by simp only [go_sem, reduceIte, seval, -BitVec.isValue, -BitVec.reduceOfNat, -List.reduceReplicate]) (by rfl) (by simp only [go_sem, reduceIte, seval, -BitVec.isValue, -BitVec.reduceOfNat, -List.reduceReplicate]) (by simp only [go_sem, shC_own, shC_fz, shC_len hr, shC_len hr1, reduceIte, seval, -BitVec.isValue, -BitVec.reduceOfNat, -List.reduceReplicate]) (by simp only [go_sem, reduceIte, seval, -BitVec.isValue, -BitVec.reduceOfNat, -List.reduceReplicate]) (by simp only [go_sem, shC, v8C, reduceIte, seval, -BitVec.isValue, -BitVec.reduceOfNat, -List.reduceReplicate]) ?_
  refine AW_ct [ctHnone, mark 20, mark 25, ctU32, ctU64] (AW_run hct 1000 ?_)
  simp (maxSteps := 10000000) (disch := omega) only [go_sem, shC_ren, reduceIte, seval, -BitVec.isValue, -BitVec.reduceOfNat, -List.reduceReplicate]
  refine AW_loop (σz s tot) (fun j => j ≤ zpad tot) (fun j => zpad tot - j) 0 (Nat.zero_le _) (Wk_p [] ?_) fun j hj => ?_
  · simp only [go_sem, σz, zK, shC_ren, shC_idk, List.replicate_zero, reduceIte, seval, -BitVec.isValue, -BitVec.reduceOfNat, -List.reduceReplicate]
    simp
  · refine AW_ct [ctHnone, mark 20, mark 25, ctU32, ctU64] (AW_run hct 1000 ?_)
    obtain ⟨z, hz⟩ : ∃ z, z = zK s j := ⟨_, rfl⟩
    have hok := zK_ok hs j
    have hzn := zK_n hs tot j hn
    rw [← hz] at hok hzn
    have hzr := hok.1
    have hzp : zpad tot = (119 - tot % 64) % 64 := rfl
    have hr2 := (hput_ok hok [(0 : BitVec 8)]).1
    by_cases hd : j = zpad tot
    · have h56 : (z.n : Int) = 56 := by omega
      subst hd
      simp (maxSteps := 10000000) (disch := omega) only [go_sem, σz, ← hz, shC_len hzr, shC_g73 hzr, h56, ctHnone, mark, ctU32, ctU64, reduceIte, seval, -BitVec.isValue, -BitVec.reduceOfNat, -List.reduceReplicate]
      have hr3 := (hput_ok hok (bigL (8#64 * BitVec.ofNat 64 tot) 8)).1
      have hend : hput z (bigL (8#64 * BitVec.ofNat 64 tot) 8) = endS s tot := by rw [hz, zK_all]
      have hz2 : zpad tot < 64 := by omega
      have hbl := bigL_len (8#64 * BitVec.ofNat 64 tot) 8
      rw [hend] at hr3
      have hcall := hput_funG z hok (tot + 1 + zpad tot : Nat) (bigL (8#64 * BitVec.ofNat 64 tot) 8) (by omega) (by omega) (by omega)
      rw [hend, h56] at hcall
      refine AW_callG [(0, 2)] [] 3 [] false (by simp only [go_sem, reduceIte, seval, -BitVec.isValue, -BitVec.reduceOfNat, -List.reduceReplicate]) (by simp only [go_sem, reduceIte, seval, -BitVec.isValue, -BitVec.reduceOfNat, -List.reduceReplicate]) hcall (by rfl) (.inr rfl) (by simp only [go_sem, reduceIte, seval, -BitVec.isValue, -BitVec.reduceOfNat, -List.reduceReplicate]) (by rfl) (by simp only [go_sem, reduceIte, seval, -BitVec.isValue, -BitVec.reduceOfNat, -List.reduceReplicate]) (by simp only [go_sem, shC_own, shC_fz, shC_len hzr, shC_len hr3, reduceIte, seval, -BitVec.isValue, -BitVec.reduceOfNat, -List.reduceReplicate]) (by simp only [go_sem, reduceIte, seval, -BitVec.isValue, -BitVec.reduceOfNat, -List.reduceReplicate]) (by simp only [go_sem, shC, v8C, reduceIte, seval, -BitVec.isValue, -BitVec.reduceOfNat, -List.reduceReplicate]) ?_
      refine AW_ct [ctHnone, mark 20, mark 25, ctU32, ctU64] (AW_run hct 1000 ?_)
      obtain ⟨v, hv⟩ : ∃ v, v = (endS s tot).v := ⟨_, rfl⟩
      simp (maxSteps := 10000000) (disch := omega) only [go_sem, shC_ren, shC_len hr3, shC_l8, ← hv, ctHnone, mark, ctU32, ctU64, reduceIte, seval, -BitVec.isValue, -BitVec.reduceOfNat, -List.reduceReplicate]
      refine AW_loop (σo v) (fun i => i ≤ 8) (fun i => 8 - i) 0 (Nat.zero_le _) (Wk_p [] ?_) fun i hi => ?_
      · simp only [go_sem, σo, outK_zero, reduceIte, seval, -BitVec.isValue, -BitVec.reduceOfNat, -List.reduceReplicate]
        try simp
      · refine AW_ct [ctHnone, mark 20, mark 25, ctU32, ctU64] (AW_run hct 1000 ?_)
        have hol := outK_len v i hi
        simp (maxSteps := 10000000) (disch := omega) only [go_sem, σo, reduceIte, seval, -BitVec.isValue, -BitVec.reduceOfNat, -List.reduceReplicate]
        refine run_br (fun hc => ?_) (fun hc => ?_)
        · have hlt : i < 8 := by have := of_decide_eq_true hc; omega
          have hvl := V8.l_len v
          have e0 : (4 * (i : Int)).toNat = 4 * i := by omega
          have hbl4 := bigL_len ((v.l.getD i 0).setWidth 64) 4
          have hbt : (bigL ((v.l.getD i 0).setWidth 64) 4).take 4 = bigL ((v.l.getD i 0).setWidth 64) 4 := List.take_of_length_le (by omega)
          have hif : (if 4 ≤ 32 - 4 * i then 4 else 32 - 4 * i) = 4 := by rw [if_pos (by omega)]
          simp (maxSteps := 10000000) (disch := omega) only [go_sem, hol, hvl, e0, hbl4, hif, hbt, ctHnone, mark, ctU32, ctU64, reduceIte, seval, -BitVec.isValue, -BitVec.reduceOfNat, -List.reduceReplicate]
          refine ⟨i + 1, by omega, Wk_p [] ?_, by omega⟩
          simp only [go_sem, reduceIte, seval, -BitVec.isValue, -BitVec.reduceOfNat, -List.reduceReplicate]
          rw [← outK_succ v i hlt]
          simp
        · have hge : i = 8 := by have := of_decide_eq_false hc; omega
          subst hge
          have hov := outV_len v
          have hot : (outV v).take 32 = outV v := List.take_of_length_le (by omega)
          simp (maxSteps := 10000000) (disch := omega) only [go_sem, outK_all, hov, hot, ctHnone, mark, ctU32, ctU64, reduceIte, seval, -BitVec.isValue, -BitVec.reduceOfNat, -List.reduceReplicate]
          simp [hot]
    · have h56 : ¬ (z.n : Int) = 56 := by omega
      simp (maxSteps := 10000000) (disch := omega) only [go_sem, σz, ← hz, shC_len hzr, shC_g73 hzr, h56, ctHnone, mark, ctU32, ctU64, reduceIte, seval, -BitVec.isValue, -BitVec.reduceOfNat, -List.reduceReplicate]
      refine AW_callG [(0, 2)] [] 4 [] false (by simp only [go_sem, reduceIte, seval, -BitVec.isValue, -BitVec.reduceOfNat, -List.reduceReplicate]) (by simp only [go_sem, reduceIte, seval, -BitVec.isValue, -BitVec.reduceOfNat, -List.reduceReplicate]) (hput_funG z hok (tot + 1 + j : Nat) [(0 : BitVec 8)] (by simp) (by omega) (by simp; omega)) (by rfl) (.inr rfl) (by simp only [go_sem, reduceIte, seval, -BitVec.isValue, -BitVec.reduceOfNat, -List.reduceReplicate]) (by rfl) (by simp only [go_sem, reduceIte, seval, -BitVec.isValue, -BitVec.reduceOfNat, -List.reduceReplicate]) (by simp only [go_sem, shC_own, shC_fz, shC_len hzr, shC_len hr2, reduceIte, seval, -BitVec.isValue, -BitVec.reduceOfNat, -List.reduceReplicate]) (by simp only [go_sem, reduceIte, seval, -BitVec.isValue, -BitVec.reduceOfNat, -List.reduceReplicate]) (by simp only [go_sem, shC, v8C, reduceIte, seval, -BitVec.isValue, -BitVec.reduceOfNat, -List.reduceReplicate]) ?_
      refine AW_ct [ctHnone, mark 20, mark 25, ctU32, ctU64] (AW_run hct 1000 ?_)
      simp (maxSteps := 10000000) (disch := omega) only [go_sem, shC_ren, reduceIte, seval, -BitVec.isValue, -BitVec.reduceOfNat, -List.reduceReplicate]
      refine ⟨j + 1, by omega, Wk_p [] ?_, by omega⟩
      simp only [go_sem, shC_ren, shC_idk, zK_succ, ← hz, reduceIte, seval, -BitVec.isValue, -BitVec.reduceOfNat, -List.reduceReplicate]
      simp
      try (congr 1 <;> omega)
set_option maxHeartbeats 2000000 in
theorem Sum256_fun (ps : List (List (BitVec 8))) (hp : ps.length ≤ 140737488351232) (hq : ∀ x ∈ ps, x.length ≤ 140737488351232) (hl : ps.flatten.length ≤ 4611686018427387904) :
    Fun Tryz.prog Gs 240 [Enc.enc ps] (Enc.ret (⟨sha256S ps.flatten⟩ : Ar (BitVec 8))) := by
  have hn : (hput sh0 ps.flatten).n = ps.flatten.length % 64 := by rw [hput_n _ sh0_ok]; simp [sh0]
  have hok := hput_ok sh0_ok ps.flatten
  have hr := hok.1
  have hS := fun f => Sum_fun f (hput sh0 ps.flatten) hok ps.flatten.length hn hl
  rw [sum_spec] at hS
  obtain ⟨T, hT⟩ : ∃ T : List AV, T = shC (hput sh0 ps.flatten).v (hput sh0 ps.flatten).r (hput sh0 ps.flatten).n ps.flatten.length := ⟨_, rfl⟩
  have hct : CtOK Tryz.prog Gs [(245, fun l => (l = [.rop false T], Enc.ret (⟨sha256S ps.flatten⟩ : Ar (BitVec 8))))] := CtOK_cons (fun l h => by
    obtain rfl := h
    rw [hT]
    exact hS false) CtOK_nil
  refine Fun_cc [] mo Tryz.func240 (by decide) cc240 rs240 Tryz.ntmps240 (by simp) ?_
  refine AW_run CtOK_nil 1000 ?_
  simp (maxSteps := 10000000) (disch := omega) only [go_sem, c240, z32b, reduceIte, seval, -BitVec.isValue, -BitVec.reduceOfNat, -List.reduceReplicate]
  refine AW_callG [] [(0, 1)] 2 [] false (by simp only [go_sem, reduceIte, seval, -BitVec.isValue, -BitVec.reduceOfNat, -List.reduceReplicate]) (by simp only [go_sem, reduceIte, seval, -BitVec.isValue, -BitVec.reduceOfNat, -List.reduceReplicate]) New_funG (by rfl) (.inr rfl) (by simp only [go_sem, reduceIte, seval, -BitVec.isValue, -BitVec.reduceOfNat, -List.reduceReplicate]) (by rfl) (by simp only [go_sem, reduceIte, seval, -BitVec.isValue, -BitVec.reduceOfNat, -List.reduceReplicate]) (by simp only [go_sem, reduceIte, seval, -BitVec.isValue, -BitVec.reduceOfNat, -List.reduceReplicate]) (by simp only [go_sem, reduceIte, seval, -BitVec.isValue, -BitVec.reduceOfNat, -List.reduceReplicate]) (by simp only [go_sem, shC, v8C, reduceIte, seval, -BitVec.isValue, -BitVec.reduceOfNat, -List.reduceReplicate]) ?_
  refine AW_run CtOK_nil 1000 ?_
  simp (maxSteps := 10000000) (disch := omega) only [go_sem, shC_ren, reduceIte, seval, -BitVec.isValue, -BitVec.reduceOfNat, -List.reduceReplicate]
  have h00 : (List.replicate 64 (0 : BitVec 8)).length = 64 := by simp
  have hW := hWrite_funG sh0 sh0_ok 0 ps hp hq (by omega) (by omega)
  rw [Int.zero_add, ← hT] at hW
  have hW' : FunG Tryz.prog Gs 243 [.ptr 0 0, Enc.enc ps] [(0, ⟨shC H256 (List.replicate 64 0) 0 0, false⟩)] (.i 0) [(0, ⟨T, false⟩)] := hW
  have hTo : own.ownL T = false := by rw [hT]; exact shC_own
  have hTf : ∀ H k fl, T.map (frz H (k + 1) fl) = T := by rw [hT]; exact shC_fz
  have hTr : ∀ m, ren.renL m T = T := by rw [hT]; exact shC_ren
  have hTl : T.length = 75 := by rw [hT]; exact shC_len hr
  have hTx : okx.okxL false [(0, 1)] T := by rw [hT]; simp only [go_sem, shC, v8C, reduceIte, seval, -BitVec.isValue, -BitVec.reduceOfNat, -List.reduceReplicate]
  refine AW_callG [(0, 1)] [] 2 [] false (by simp only [go_sem, reduceIte, seval, -BitVec.isValue, -BitVec.reduceOfNat, -List.reduceReplicate]) (by simp only [go_sem, reduceIte, seval, -BitVec.isValue, -BitVec.reduceOfNat, -List.reduceReplicate]) hW' (by rfl) (.inr rfl) (by simp only [go_sem, reduceIte, seval, -BitVec.isValue, -BitVec.reduceOfNat, -List.reduceReplicate]) (by rfl) (by simp only [go_sem, reduceIte, seval, -BitVec.isValue, -BitVec.reduceOfNat, -List.reduceReplicate]) (by simp only [go_sem, shC_own, shC_fz, shC_len h00, hTl, reduceIte, seval, -BitVec.isValue, -BitVec.reduceOfNat, -List.reduceReplicate]) (by simp only [go_sem, reduceIte, seval, -BitVec.isValue, -BitVec.reduceOfNat, -List.reduceReplicate]) (by simp only [go_sem, hTx, reduceIte, seval, -BitVec.isValue, -BitVec.reduceOfNat, -List.reduceReplicate]) ?_
  refine AW_ct [(245, fun l => (l = [.rop false T], Enc.ret (⟨sha256S ps.flatten⟩ : Ar (BitVec 8))))] (AW_run hct 1000 ?_)
  have hsl := sha256S_len ps.flatten
  have hst : (sha256S ps.flatten).take 32 = sha256S ps.flatten := List.take_of_length_le (by omega)
  simp (maxSteps := 10000000) (disch := omega) only [go_sem, hTr, hTf, hTo, hsl, hst, reduceIte, seval, -BitVec.isValue, -BitVec.reduceOfNat, -List.reduceReplicate]
  try simp [hst]
def ctSum256 : Nat × (List AV → R) := (240, A1 fun ps : List (List (BitVec 8)) => (bbOK ps ∧ ps.flatten.length ≤ 4611686018427387904, Enc.ret (⟨sha256S ps.flatten⟩ : Ar (BitVec 8))))
theorem ctSum256_ok {Ct : List (Nat × (List AV → R))} (h : CtOK Tryz.prog Gs Ct) : CtOK Tryz.prog Gs (ctSum256 :: Ct) := CtOK_cons (Row1 fun ps h => Sum256_fun ps h.1.1 h.1.2 h.2) h
end Go.Lv
namespace Go.Lv
open Go Go.Proofs
set_option linter.unusedSimpArgs false
set_option maxRecDepth 100000
def numS (b : List (BitVec 8)) : BitVec 64 := b.foldl (fun n x => n * 256 + x.setWidth 64) 0
theorem numS_succ (b : List (BitVec 8)) (i : Nat) (h : i < b.length) : numS (b.take (i + 1)) = numS (b.take i) * 256 + (b.getD i 0).setWidth 64 := by
  rw [List.take_succ_eq_append_getElem h, numS, List.foldl_append]
  simp [numS, List.getD_eq_getElem?_getD, h]
def σnu (b : List (BitVec 8)) (i : Nat) : St := ⟨[(3, .u64 (numS (b.take i))), (6, Enc.enc b), (7, .i b.length), (8, .i i)], [], 0⟩
theorem Number_fun (b : List (BitVec 8)) (hb : b.length ≤ 140737488351232) : Fun Tryz.prog Gs 76 [Enc.enc b] (.u64 (numS b)) := by
  refine Fun_cc [] mo Tryz.func76 (by decide) cc76 rs76 Tryz.ntmps76 (by simp) ?_
  refine AW_run CtOK_nil 1000 ?_
  simp (maxSteps := 10000000) (disch := omega) only [go_sem, c76, reduceIte, seval, -BitVec.isValue, -BitVec.reduceOfNat, -List.reduceReplicate]
  refine AW_loop (σnu b) (fun i => i ≤ b.length) (fun i => b.length - i) 0 (Nat.zero_le _) (Wk_p [] ?_) fun i hi => ?_
  · simp only [go_sem, σnu, List.take_zero, reduceIte, seval, -BitVec.isValue, -BitVec.reduceOfNat, -List.reduceReplicate]
    simp [numS]
  · refine AW_run CtOK_nil 1000 ?_
    simp (maxSteps := 10000000) (disch := omega) only [go_sem, σnu, reduceIte, seval, -BitVec.isValue, -BitVec.reduceOfNat, -List.reduceReplicate]
    refine run_br (fun hc => ?_) (fun hc => ?_)
    · have hlt : i < b.length := by have := of_decide_eq_true hc; omega
      simp (maxSteps := 10000000) (disch := omega) only [go_sem, reduceIte, seval, -BitVec.isValue, -BitVec.reduceOfNat, -List.reduceReplicate]
      refine ⟨i + 1, by omega, Wk_p [] ?_, by omega⟩
      simp only [go_sem, numS_succ b i hlt, reduceIte, seval, -BitVec.isValue, -BitVec.reduceOfNat, -List.reduceReplicate]
      simp
    · have hge : i = b.length := by have := of_decide_eq_false hc; omega
      subst hge
      simp (maxSteps := 10000000) (disch := omega) only [go_sem, List.take_length, reduceIte, seval, -BitVec.isValue, -BitVec.reduceOfNat, -List.reduceReplicate]
def ctNumber : Nat × (List AV → R) := (76, A1 fun b : List (BitVec 8) => (b.length ≤ 140737488351232, .u64 (numS b)))
theorem ctNumber_ok {Ct : List (Nat × (List AV → R))} (h : CtOK Tryz.prog Gs Ct) : CtOK Tryz.prog Gs (ctNumber :: Ct) := CtOK_cons (Row1 fun b h => Number_fun b h) h
theorem or4 (a b c d : Nat) (hb : b < 256) (hc : c < 256) (hd : d < 256) : ((a <<< 24 ||| b <<< 16) ||| c <<< 8) ||| d = ((a * 256 + b) * 256 + c) * 256 + d := by
  have e1 : a <<< 24 ||| b <<< 16 = (a * 256 + b) <<< 16 := by
    rw [← Nat.shiftLeft_add_eq_or_of_lt (by rw [Nat.shiftLeft_eq]; omega)]; simp only [Nat.shiftLeft_eq]; omega
  have e2 : (a * 256 + b) <<< 16 ||| c <<< 8 = ((a * 256 + b) * 256 + c) <<< 8 := by
    rw [← Nat.shiftLeft_add_eq_or_of_lt (by rw [Nat.shiftLeft_eq]; omega)]; simp only [Nat.shiftLeft_eq]; omega
  rw [e1, e2, ← Nat.shiftLeft_add_eq_or_of_lt (by omega)]; simp only [Nat.shiftLeft_eq]
theorem word4 (a b c d : BitVec 8) : (numS [a, b, c, d]).setWidth 32 = (a.setWidth 32 <<< 24 ||| b.setWidth 32 <<< 16 ||| c.setWidth 32 <<< 8 ||| d.setWidth 32 : W32) := by
  have ha := a.isLt
  have hb := b.isLt
  have hc := c.isLt
  have hd := d.isLt
  apply BitVec.eq_of_toNat_eq
  have h1 : (a.setWidth 32 <<< 24 : W32).toNat = a.toNat <<< 24 := by
    rw [BitVec.toNat_shiftLeft, BitVec.toNat_setWidth, Nat.mod_eq_of_lt (show a.toNat < 2 ^ 32 by omega), Nat.mod_eq_of_lt (by rw [Nat.shiftLeft_eq]; omega)]
  have h2 : (b.setWidth 32 <<< 16 : W32).toNat = b.toNat <<< 16 := by
    rw [BitVec.toNat_shiftLeft, BitVec.toNat_setWidth, Nat.mod_eq_of_lt (show b.toNat < 2 ^ 32 by omega), Nat.mod_eq_of_lt (by rw [Nat.shiftLeft_eq]; omega)]
  have h3 : (c.setWidth 32 <<< 8 : W32).toNat = c.toNat <<< 8 := by
    rw [BitVec.toNat_shiftLeft, BitVec.toNat_setWidth, Nat.mod_eq_of_lt (show c.toNat < 2 ^ 32 by omega), Nat.mod_eq_of_lt (by rw [Nat.shiftLeft_eq]; omega)]
  have h4 : (d.setWidth 32 : W32).toNat = d.toNat := by rw [BitVec.toNat_setWidth, Nat.mod_eq_of_lt (by omega)]
  rw [BitVec.toNat_or, BitVec.toNat_or, BitVec.toNat_or, h1, h2, h3, h4, or4 _ _ _ _ hb hc hd]
  have y0 : (0 : BitVec 64).toNat = 0 := rfl
  have y1 : (256 : BitVec 64).toNat = 256 := rfl
  simp only [numS, List.foldl_cons, List.foldl_nil, BitVec.toNat_setWidth, BitVec.toNat_add, BitVec.toNat_mul, y0, y1]
  rw [BitVec.toNat_setWidth] at h4
  omega
theorem word_fun (b : List (BitVec 8)) (hb : b.length = 64) (t : Nat) (ht : t < 16) : Fun Tryz.prog Gs 257 [Enc.enc (⟨b⟩ : Ar (BitVec 8)), Enc.enc (t : Int)] (.u32 (be32 b t)) := by
  refine Fun_cc [mark 24, ctNumber] mo Tryz.func257 (by decide) cc257 rs257 Tryz.ntmps257 (by simp) ?_
  refine AW_run (mark_ok 24 (ctNumber_ok CtOK_nil)) 1000 ?_
  have e0 : (4 * (t : Int)).toNat = 4 * t := by omega
  have e1 : (4 * (t : Int) + 1).toNat = 4 * t + 1 := by omega
  have e2 : (4 * (t : Int) + 2).toNat = 4 * t + 2 := by omega
  have e3 : (4 * (t : Int) + 3).toNat = 4 * t + 3 := by omega
  simp (maxSteps := 10000000) (disch := omega) only [go_sem, c257, mark, ctNumber, hb, e0, e1, e2, e3, deL_cons, deL_nil, reduceIte, seval, -BitVec.isValue, -BitVec.reduceOfNat, -List.reduceReplicate]
  rw [be32, ← word4]
def ctWord : Nat × (List AV → R) := (257, A2 fun (b : Ar (BitVec 8)) (t : Int) => (b.l.length = 64 ∧ 0 ≤ t ∧ t < 16, .u32 (be32 b.l t.toNat)))
theorem ctWord_ok {Ct : List (Nat × (List AV → R))} (h : CtOK Tryz.prog Gs Ct) : CtOK Tryz.prog Gs (ctWord :: Ct) := CtOK_cons (Row2 fun b t h => by
  obtain ⟨h1, h2, h3⟩ := h
  obtain ⟨t, rfl⟩ := Int.eq_ofNat_of_zero_le h2
  exact word_fun b.l h1 t (by omega)) h
theorem rconst_fun : Fun Tryz.prog Gs 256 [] (Enc.ret (⟨K256⟩ : Ar W32)) := by
  refine Fun_cc [] mo Tryz.func256 (by decide) cc256 rs256 Tryz.ntmps256 (by simp) ?_
  refine AW_run CtOK_nil 1000 ?_
  simp (maxSteps := 10000000) (disch := omega) only [go_sem, c256, reduceIte, seval, -BitVec.isValue, -BitVec.reduceOfNat, -List.reduceReplicate]
  try rfl
theorem rstart_fun : Fun Tryz.prog Gs 230 [] (Enc.ret (⟨H256.l⟩ : Ar W32)) := by
  refine Fun_cc [] mo Tryz.func230 (by decide) cc230 rs230 Tryz.ntmps230 (by simp) ?_
  refine AW_run CtOK_nil 1000 ?_
  simp (maxSteps := 10000000) (disch := omega) only [go_sem, c230, reduceIte, seval, -BitVec.isValue, -BitVec.reduceOfNat, -List.reduceReplicate]
  try rfl
def ctRConst : Nat × (List AV → R) := (256, A0 (True, Enc.ret (⟨K256⟩ : Ar W32)))
theorem ctRConst_ok {Ct : List (Nat × (List AV → R))} (h : CtOK Tryz.prog Gs Ct) : CtOK Tryz.prog Gs (ctRConst :: Ct) := CtOK_cons (Row0 fun _ => rconst_fun) h
def ctRStart : Nat × (List AV → R) := (230, A0 (True, Enc.ret (⟨H256.l⟩ : Ar W32)))
theorem ctRStart_ok {Ct : List (Nat × (List AV → R))} (h : CtOK Tryz.prog Gs Ct) : CtOK Tryz.prog Gs (ctRStart :: Ct) := CtOK_cons (Row0 fun _ => rstart_fun) h
def σq1 (s : V8) (b : List (BitVec 8)) (t : Nat) : St :=
  ⟨[(2, .ptr 0 0), (3, .ptr 1 0), (4, .ptr 2 0), (5, .ptr 3 0), (6, .ptr 4 0), (20, .i t)],
   [(0, ⟨v8C s, true⟩), (1, ⟨b.map .u8, true⟩), (2, ⟨[.u32 0, .u32 0, .u32 0, .u32 0, .u32 0, .u32 0, .u32 0, .u32 0], true⟩), (3, ⟨K256.map .u32, true⟩), (4, ⟨(wK b t).map .u32, true⟩)], 5⟩
def σq2 (s : V8) (b : List (BitVec 8)) (t : Nat) : St :=
  ⟨[(2, .ptr 0 0), (4, .ptr 2 0), (5, .ptr 3 0), (6, .ptr 4 0), (10, .ptr 5 0), (69, .i t)],
   [(0, ⟨v8C s, true⟩), (2, ⟨[.u32 0, .u32 0, .u32 0, .u32 0, .u32 0, .u32 0, .u32 0, .u32 0], true⟩), (3, ⟨K256.map .u32, true⟩), (4, ⟨(wK b 64).map .u32, true⟩), (5, ⟨v8C (rdK s (wK b 64) t), true⟩)], 6⟩
set_option maxHeartbeats 4000000 in
theorem rCompress_fun (s : V8) (b : List (BitVec 8)) (hb : b.length = 64) : Fun Tryz.prog Gs 231 [Enc.enc (⟨s.l⟩ : Ar W32), Enc.enc (⟨b⟩ : Ar (BitVec 8))] (Enc.ret (⟨(cmpS s b).l⟩ : Ar W32)) := by
  refine Fun_cc [ctRConst, ctRRot, ctWord] mo Tryz.func231 (by decide) cc231 rs231 Tryz.ntmps231 (by simp) ?_
  have hct := ctRConst_ok (ctRRot_ok (ctWord_ok CtOK_nil))
  refine AW_run hct 1000 ?_
  have hk := K256_len
  have hbt : b.take 64 = b := List.take_of_length_le (by omega)
  have hkt : K256.take 64 = K256 := rfl
  simp (maxSteps := 10000000) (disch := omega) only [go_sem, c231, v8C_eq, z64w, hb, hbt, hk, hkt, ctRConst, ctRRot, ctWord, reduceIte, seval, -BitVec.isValue, -BitVec.reduceOfNat, -List.reduceReplicate]
  refine AW_loop (σq1 s b) (fun t => t ≤ 64) (fun t => 64 - t) 0 (Nat.zero_le _) (Wk_p [] ?_) fun t ht => ?_
  · simp only [go_sem, σq1, wK_zero, v8C_ren, v8C_idk, reduceIte, seval, -BitVec.isValue, -BitVec.reduceOfNat, -List.reduceReplicate]
    simp
  · refine AW_ct [ctRConst, ctRRot, ctWord] (AW_run hct 1000 ?_)
    have hw := wK_len b t
    by_cases hd : t < 64
    · have hd' : (t : Int) < 64 := by omega
      by_cases h16 : t < 16
      · have h16' : (t : Int) < 16 := by omega
        simp (maxSteps := 10000000) (disch := omega) only [go_sem, σq1, hd', h16', hb, hbt, hw, ctRConst, ctRRot, ctWord, reduceIte, seval, -BitVec.isValue, -BitVec.reduceOfNat, -List.reduceReplicate]
        refine ⟨t + 1, by omega, Wk_p [] ?_, by omega⟩
        simp only [go_sem, wK_succ, wNew, if_pos h16, v8C_ren, v8C_idk, reduceIte, seval, -BitVec.isValue, -BitVec.reduceOfNat, -List.reduceReplicate]
        simp
      · have h16' : ¬ (t : Int) < 16 := by omega
        have e0 : ((t : Int) - 15).toNat = t - 15 := by omega
        have e1 : ((t : Int) - 2).toNat = t - 2 := by omega
        have e2 : ((t : Int) - 7).toNat = t - 7 := by omega
        have e3 : ((t : Int) - 16).toNat = t - 16 := by omega
        simp (maxSteps := 10000000) (disch := omega) only [go_sem, σq1, hd', h16', hw, e0, e1, e2, e3, ctRConst, ctRRot, ctWord, reduceIte, seval, -BitVec.isValue, -BitVec.reduceOfNat, -List.reduceReplicate]
        refine ⟨t + 1, by omega, Wk_p [] ?_, by omega⟩
        simp only [go_sem, wK_succ, wNew, if_neg h16, sg0, sg1, v8C_ren, v8C_idk, reduceIte, seval, -BitVec.isValue, -BitVec.reduceOfNat, -List.reduceReplicate]
        simp
    · have hge : t = 64 := by omega
      subst hge
      have hwt : (wK b 64).take 64 = wK b 64 := List.take_of_length_le (by omega)
      simp (maxSteps := 10000000) (disch := omega) only [go_sem, σq1, v8C, ctRConst, ctRRot, ctWord, reduceIte, seval, -BitVec.isValue, -BitVec.reduceOfNat, -List.reduceReplicate]
      refine AW_loop (σq2 s b) (fun t => t ≤ 64) (fun t => 64 - t) 0 (Nat.zero_le _) (Wk_p [] ?_) fun t ht => ?_
      · simp only [go_sem, σq2, rdK, v8C, reduceIte, seval, -BitVec.isValue, -BitVec.reduceOfNat, -List.reduceReplicate]
        try simp
      · refine AW_ct [ctRConst, ctRRot, ctWord] (AW_run hct 1000 ?_)
        obtain ⟨v, hv⟩ : ∃ v, v = rdK s (wK b 64) t := ⟨_, rfl⟩
        have hsu := rdK_succ s (wK b 64) t
        rw [← hv] at hsu
        by_cases hd : t < 64
        · have hd' : (t : Int) < 64 := by omega
          simp (maxSteps := 10000000) (disch := omega) only [go_sem, σq2, ← hv, v8C, hd', hw, hk, ctRConst, ctRRot, ctWord, reduceIte, seval, -BitVec.isValue, -BitVec.reduceOfNat, -List.reduceReplicate]
          refine ⟨t + 1, by omega, Wk_p [] ?_, by omega⟩
          simp only [go_sem, hsu, rd, rdX, rdY, S0, S1, chS_or, majS_or, v8C, reduceIte, seval, -BitVec.isValue, -BitVec.reduceOfNat, -List.reduceReplicate]
          simp
        · have hge : t = 64 := by omega
          subst hge
          simp (maxSteps := 10000000) (disch := omega) only [go_sem, σq2, ← hv, v8C, ctRConst, ctRRot, ctWord, reduceIte, seval, -BitVec.isValue, -BitVec.reduceOfNat, -List.reduceReplicate]
          refine AW_unr 9 ?_
          repeat (refine Unr_run (by exact hct) 1000 ?_; simp (maxSteps := 10000000) (disch := omega) only [go_sem, List.set_cons_zero, List.set_cons_succ, ctRConst, ctRRot, ctWord, reduceIte, seval, -BitVec.isValue, -BitVec.reduceOfNat, -List.reduceReplicate])
          simp [cmpS, addV, ← hv, V8.l, BitVec.add_comm]
end Go.Lv
namespace Go.Lv
open Go Go.Proofs
set_option linter.unusedSimpArgs false
set_option maxRecDepth 100000
theorem v8C_t8 (v : V8) : (v8C v).take 8 = v8C v := rfl
def prP (t : List (BitVec 8)) (j : Nat) : List (BitVec 8) := t ++ [128] ++ List.replicate j 0
theorem prP_len (t : List (BitVec 8)) (j : Nat) : (prP t j).length = t.length + 1 + j := by simp [prP]; omega
theorem prP_succ (t : List (BitVec 8)) (j : Nat) : prP t (j + 1) = prP t j ++ [0] := by simp [prP, List.replicate_succ']
theorem prP_pad (t : List (BitVec 8)) : prP t (zpad t.length) ++ bigL (8#64 * BitVec.ofNat 64 t.length) 8 = padS t := by rw [prP, padS]; rfl
theorem blk_fill (p : List (BitVec 8)) (k : Nat) (h : 64 * k + 64 ≤ p.length) : (List.range 64).map (fun i => p.getD (64 * k + i) 0) = (p.drop (64 * k)).take 64 := by
  apply List.ext_getElem
  · simp; omega
  · intro i h1 h2
    simp only [List.length_map, List.length_range] at h1
    simp [List.getD_eq_getElem?_getD, show 64 * k + i < p.length by omega]
def outP (v : V8) (i : Nat) : List (BitVec 8) := (v.l.take i).flatMap fun w => bigL (w.setWidth 64) 4
theorem outP_zero (v : V8) : outP v 0 = [] := rfl
theorem outP_all (v : V8) : outP v 8 = outV v := rfl
theorem outP_len (v : V8) (i : Nat) (hi : i ≤ 8) : (outP v i).length = 4 * i := outK_pre v i hi
theorem outP_succ (v : V8) (i : Nat) (hi : i < 8) : outP v (i + 1) = outP v i ++ bigL ((v.l.getD i 0).setWidth 64) 4 := by
  have e3 : v.l.take (i + 1) = v.l.take i ++ [v.l.getD i 0] := by
    rw [List.take_succ_eq_append_getElem (by rw [V8.l_len]; exact hi)]
    simp [List.getD_eq_getElem?_getD, show i < v.l.length from hi]
  rw [outP, e3, List.flatMap_append]; simp [outP]
def σt0 (t : List (BitVec 8)) (j : Nat) : St := ⟨[(0, Enc.enc t), (3, .sl 0 0 (prP t j).length 1)], [(0, ⟨(prP t j).map .u8, true⟩)], 1⟩
def σt5 (p : List (BitVec 8)) (k : Nat) : St := ⟨[(3, Enc.ret p), (4, .ptr 0 0), (5, .i (64 * k))], [(0, ⟨v8C (blks H256 p k), true⟩)], 1⟩
def σt6 (p : List (BitVec 8)) (k i : Nat) : St := ⟨[(3, Enc.ret p), (4, .ptr 0 0), (5, .i (64 * k)), (6, .ptr 1 0), (36, .i i)], [(0, ⟨v8C (blks H256 p k), true⟩), (1, ⟨(fillL 64 (fun i => p.getD (64 * k + i) 0) (fun _ => 0) i).map .u8, true⟩)], 2⟩
def σt7 (v : V8) (i : Nat) : St := ⟨[(4, .ptr 0 0), (8, Enc.ret (outP v i)), (52, .i i)], [(0, ⟨v8C v, true⟩)], 1⟩
theorem fz64 (f : Nat → BitVec 8) : fillL 64 f (fun _ => 0) 0 = List.replicate 64 0 := by rw [fillL_zero]; rfl
def ctRCompress : Nat × (List AV → R) := (231, A2 fun (s : Ar W32) (b : Ar (BitVec 8)) => (s.l.length = 8 ∧ b.l.length = 64, Enc.ret (⟨(cmpS (V8.of s.l) b.l).l⟩ : Ar W32)))
theorem ctRCompress_ok {Ct : List (Nat × (List AV → R))} (h : CtOK Tryz.prog Gs Ct) : CtOK Tryz.prog Gs (ctRCompress :: Ct) := CtOK_cons (Row2 fun s b h => by
  obtain ⟨s⟩ := s
  have := rCompress_fun (V8.of s) b.l h.2
  rwa [V8.l_of h.1] at this) h
set_option maxHeartbeats 4000000 in
theorem rSum256_fun (t : List (BitVec 8)) (ht : t.length ≤ 1000000000) : Fun Tryz.prog Gs 184 [Enc.enc t] (Enc.ret (sha256S t)) := by
  refine Fun_cc [mark 11, mark 19, mark 51, ctJoin, ctRBig, ctRStart, ctRCompress] mo Tryz.func184 (by decide) cc184 rs184 Tryz.ntmps184 (by simp) ?_
  have hct := mark_ok 11 (mark_ok 19 (mark_ok 51 (ctJoin_ok (ctRBig_ok (ctRStart_ok (ctRCompress_ok CtOK_nil))))))
  refine AW_ct [mark 11, mark 12] (AW_run (mark_ok 11 (mark_ok 12 CtOK_nil)) 1000 ?_)
  simp (maxSteps := 10000000) (disch := omega) only [go_sem, c184, mark, reduceIte, seval, -BitVec.isValue, -BitVec.reduceOfNat, -List.reduceReplicate]
  refine AW_callG [] [(0, 2)] 3 [] false (by simp only [go_sem, reduceIte, seval, -BitVec.isValue, -BitVec.reduceOfNat, -List.reduceReplicate]) (by simp only [go_sem, reduceIte, seval, -BitVec.isValue, -BitVec.reduceOfNat, -List.reduceReplicate]) (Join_funG [t, [128]] (by simp) (by simp; omega)) (by rfl) (.inr rfl) (by simp only [go_sem, reduceIte, seval, -BitVec.isValue, -BitVec.reduceOfNat, -List.reduceReplicate]) (by rfl) (by simp only [go_sem, reduceIte, seval, -BitVec.isValue, -BitVec.reduceOfNat, -List.reduceReplicate]) (by simp only [go_sem, reduceIte, seval, -BitVec.isValue, -BitVec.reduceOfNat, -List.reduceReplicate]) (by simp only [go_sem, reduceIte, seval, -BitVec.isValue, -BitVec.reduceOfNat, -List.reduceReplicate]) (by simp only [go_sem, reduceIte, seval, -BitVec.isValue, -BitVec.reduceOfNat, -List.reduceReplicate]) ?_
  refine AW_ct [mark 11, mark 19, mark 51, ctJoin, ctRBig, ctRStart, ctRCompress] (AW_run hct 1000 ?_)
  have e0 : [t, [(128 : BitVec 8)]].flatten = prP t 0 := by simp [prP]
  simp (maxSteps := 10000000) (disch := omega) only [go_sem, e0, mark, ctJoin, ctRBig, ctRStart, ctRCompress, reduceIte, seval, -BitVec.isValue, -BitVec.reduceOfNat, -List.reduceReplicate]
  refine AW_loop (σt0 t) (fun j => j ≤ zpad t.length) (fun j => zpad t.length - j) 0 (Nat.zero_le _) (Wk_p [(0, 2)] ?_) fun j hj => ?_
  · simp only [go_sem, σt0, reduceIte, seval, -BitVec.isValue, -BitVec.reduceOfNat, -List.reduceReplicate]
    try simp
  · refine AW_ct [mark 11, mark 19, mark 51, ctJoin, ctRBig, ctRStart, ctRCompress] (AW_run hct 1000 ?_)
    have hl := prP_len t j
    have hzp : zpad t.length = (119 - t.length % 64) % 64 := rfl
    by_cases hd : j = zpad t.length
    · subst hd
      have h56 : ((t.length + 1 + zpad t.length : Nat) : Int) % 64 = 56 := by omega
      have hoi : BitVec.ofInt 64 (t.length : Int) = BitVec.ofNat 64 t.length := by simp
      have hbl := bigL_len ((8 : BitVec 64) * BitVec.ofNat 64 t.length) 8
      have htk : List.take (t.length + 1 + zpad t.length) (prP t (zpad t.length)) = prP t (zpad t.length) := List.take_of_length_le (by omega)
      have hpp : [prP t (zpad t.length), bigL ((8 : BitVec 64) * BitVec.ofNat 64 t.length) 8].flatten = padS t := by
        rw [← prP_pad t]; simp
      obtain ⟨p, hp⟩ : ∃ p, p = padS t := ⟨_, rfl⟩
      have hpl := padS_len t
      rw [← hp] at hpl hpp
      obtain ⟨hp64, hpn⟩ := hpl
      have hpb : p.length ≤ 1000000100 := by omega
      simp (maxSteps := 10000000) (disch := omega) only [go_sem, σt0, hl, Int.tmod_eq_emod_of_nonneg, h56, hoi, htk, hbl, hpp, deL_cons, deL_nil, v8C_eq, v8C_len, mark, ctJoin, ctRBig, ctRStart, ctRCompress, reduceIte, seval, -BitVec.isValue, -BitVec.reduceOfNat, -List.reduceReplicate]
      refine AW_loop (σt5 p) (fun k => 64 * k ≤ p.length) (fun k => p.length - 64 * k) 0 (by omega) (Wk_p [(0, 2)] ?_) fun k hk => ?_
      · simp only [go_sem, σt5, blks, v8C_ren, v8C_idk, reduceIte, seval, -BitVec.isValue, -BitVec.reduceOfNat, -List.reduceReplicate]
        try simp
      · refine AW_ct [mark 11, mark 19, mark 51, ctJoin, ctRBig, ctRStart, ctRCompress] (AW_run hct 1000 ?_)
        by_cases hd : 64 * k < p.length
        · have hd' : 64 * (k : Int) < p.length := by omega
          simp (maxSteps := 10000000) (disch := omega) only [go_sem, σt5, hd', z64b, mark, ctJoin, ctRBig, ctRStart, ctRCompress, reduceIte, seval, -BitVec.isValue, -BitVec.reduceOfNat, -List.reduceReplicate]
          refine AW_loop (σt6 p k) (fun i => i ≤ 64) (fun i => 64 - i) 0 (Nat.zero_le _) (Wk_p [] ?_) fun i hi => ?_
          · simp only [go_sem, σt6, fz64, v8C_ren, v8C_idk, reduceIte, seval, -BitVec.isValue, -BitVec.reduceOfNat, -List.reduceReplicate]
            try simp
          · refine AW_ct [mark 11, mark 19, mark 51, ctJoin, ctRBig, ctRStart, ctRCompress] (AW_run hct 1000 ?_)
            have hfl := fillL_len 64 (fun i => p.getD (64 * k + i) 0) (fun _ => 0) i
            by_cases hc : i < 64
            · have hc' : (i : Int) < 64 := by omega
              have e1 : (64 * (k : Int) + (i : Int)).toNat = 64 * k + i := by omega
              have hs := fillL_set (f := fun i => p.getD (64 * k + i) 0) (g := fun _ => 0) hc
              simp (maxSteps := 10000000) (disch := omega) only [go_sem, σt6, hc', hfl, e1, mark, ctJoin, ctRBig, ctRStart, ctRCompress, reduceIte, seval, -BitVec.isValue, -BitVec.reduceOfNat, -List.reduceReplicate]
              refine ⟨i + 1, by omega, Wk_p [] ?_, by omega⟩
              simp only [go_sem, σt6, v8C_ren, v8C_idk, reduceIte, seval, -BitVec.isValue, -BitVec.reduceOfNat, -List.reduceReplicate]
              rw [← hs]
              simp
            · have hge : i = 64 := by omega
              subst hge
              have hbf := blk_fill p k (by omega)
              obtain ⟨x, hx⟩ : ∃ x, x = (p.drop (64 * k)).take 64 := ⟨_, rfl⟩
              have hxl : x.length = 64 := by rw [hx]; simp; omega
              have hxt : x.take 64 = x := List.take_of_length_le (by omega)
              rw [← hx, ← fillL_all (g := fun _ => 0)] at hbf
              simp (maxSteps := 10000000) (disch := omega) only [go_sem, σt6, hbf, hxl, hxt, v8C_ok, v8C_de, v8C_len, v8C_own, v8C_cln, v8C_fz, V8.of_l, V8.l_len, v8C_eq, v8C_t8, mark, ctJoin, ctRBig, ctRStart, ctRCompress, reduceIte, seval, -BitVec.isValue, -BitVec.reduceOfNat, -List.reduceReplicate]
              refine ⟨k + 1, by omega, Wk_p [] ?_, by omega⟩
              have e5 : 64 * (k : Int) + 64 = 64 * ((k + 1 : Nat) : Int) := by omega
              have hb1 : blks H256 p (k + 1) = cmpS (blks H256 p k) x := by rw [blks, hx]
              simp only [go_sem, σt5, hb1, e5, v8C_ren, v8C_idk, v8C_len, reduceIte, seval, -BitVec.isValue, -BitVec.reduceOfNat, -List.reduceReplicate]
              try simp [v8C_len]
        · have hd' : ¬ 64 * (k : Int) < p.length := by omega
          have hkp : p.take (64 * k) = p := List.take_of_length_le (by omega)
          obtain ⟨v, hv⟩ : ∃ v, v = blks H256 p k := ⟨_, rfl⟩
          have hout : outV v = sha256S t := by
            have h8 := (hput_blks sh0 sh0_ok rfl p k (by omega)).1
            rw [hkp] at h8
            rw [sha256S, ← hp, h8, hv]; rfl
          simp (maxSteps := 10000000) (disch := omega) only [go_sem, σt5, hd', ← hv, mark, ctJoin, ctRBig, ctRStart, ctRCompress, reduceIte, seval, -BitVec.isValue, -BitVec.reduceOfNat, -List.reduceReplicate]
          refine AW_loop (σt7 v) (fun i => i ≤ 8) (fun i => 8 - i) 0 (Nat.zero_le _) (Wk_p [] ?_) fun i hi => ?_
          · simp only [go_sem, σt7, outP_zero, v8C_ren, v8C_idk, reduceIte, seval, -BitVec.isValue, -BitVec.reduceOfNat, -List.reduceReplicate]
            try simp
          · refine AW_ct [mark 11, mark 19, mark 51, ctJoin, ctRBig, ctRStart, ctRCompress] (AW_run hct 1000 ?_)
            have hol := outP_len v i hi
            by_cases hc : i < 8
            · have hc' : (i : Int) < 8 := by omega
              have hbl4 := bigL_len ((v.l.getD i 0).setWidth 64) 4
              have hvl := V8.l_len v
              have hfl : [outP v i, bigL ((v.l.getD i 0).setWidth 64) 4].flatten = outP v (i + 1) := by rw [outP_succ v i hc]; simp
              have hol1 := outP_len v (i + 1) (by omega)
              simp (maxSteps := 10000000) (disch := omega) only [go_sem, σt7, hc', ← v8C_eq, hol, hvl, hbl4, hfl, hol1, deL_cons, deL_nil, mark, ctJoin, ctRBig, ctRStart, ctRCompress, reduceIte, seval, -BitVec.isValue, -BitVec.reduceOfNat, -List.reduceReplicate]
              refine ⟨i + 1, by omega, Wk_p [] ?_, by omega⟩
              simp only [go_sem, σt7, v8C_ren, v8C_idk, reduceIte, seval, -BitVec.isValue, -BitVec.reduceOfNat, -List.reduceReplicate]
              try simp [hol1]
            · have hge : i = 8 := by omega
              subst hge
              simp (maxSteps := 10000000) (disch := omega) only [go_sem, σt7, outP_all, hout, mark, ctJoin, ctRBig, ctRStart, ctRCompress, reduceIte, seval, -BitVec.isValue, -BitVec.reduceOfNat, -List.reduceReplicate]
              try simp [hout]
    · have h56 : ¬ ((t.length + 1 + j : Nat) : Int) % 64 = 56 := by omega
      simp (maxSteps := 10000000) (disch := omega) only [go_sem, σt0, hl, Int.tmod_eq_emod_of_nonneg, h56, mark, ctJoin, ctRBig, ctRStart, ctRCompress, reduceIte, seval, -BitVec.isValue, -BitVec.reduceOfNat, -List.reduceReplicate]
      refine ⟨j + 1, by omega, Wk_p [(0, 2)] ?_, by omega⟩
      simp only [go_sem, σt0, prP_succ, reduceIte, seval, -BitVec.isValue, -BitVec.reduceOfNat, -List.reduceReplicate]
      simp [hl]
def ctRSum256 : Nat × (List AV → R) := (184, A1 fun t : List (BitVec 8) => (t.length ≤ 1000000000, Enc.ret (sha256S t)))
theorem ctRSum256_ok {Ct : List (Nat × (List AV → R))} (h : CtOK Tryz.prog Gs Ct) : CtOK Tryz.prog Gs (ctRSum256 :: Ct) := CtOK_cons (Row1 fun t h => rSum256_fun t h) h
end Go.Lv
