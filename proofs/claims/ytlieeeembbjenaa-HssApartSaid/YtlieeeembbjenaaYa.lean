/- A part of the proof. -/
import Derived.Test.YtlieeeembbjenaaTf
import Derived.Test.YtlieeeembbjenaaTj
set_option linter.all false
namespace Go.Lv
open Go Go.Proofs
set_option linter.unusedSimpArgs false
set_option maxRecDepth 100000

structure Lms where
  code : BitVec 32
  shake : Bool
  n : Int
  h : Int
  deriving DecidableEq
def Lms.av (o : Lms) : AV := .agg [.u32 o.code, .b o.shake, .i o.n, .i o.h]
def Lms.of : AV → Lms
  | .agg [.u32 c, .b s, .i n, .i h] => ⟨c, s, n, h⟩
  | _ => ⟨0, false, 0, 0⟩
def Lms.is : AV → Prop
  | .agg [.u32 _, .b _, .i _, .i _] => True
  | _ => False
instance : Enc Lms where
  enc := Lms.av
  ret := Lms.av
  ok := Lms.is
  dec := Lms.of
  dflt := ⟨0, false, 0, 0⟩
  d := 2
  sound x h := by
    unfold Lms.is at h
    split at h
    · rfl
    · exact h.elim
  fz H k x h := by obtain ⟨k, rfl⟩ := Nat.exists_eq_add_of_le' h; exact ⟨rfl, rfl, rfl, rfl⟩
  ow x := ⟨rfl, rfl⟩
  cl x := rfl
  rn m x := ⟨rfl, rfl⟩
  ik n x := by constructor <;> simp [Lms.av, idk, idk.idkL]
@[go_sem] theorem enc_lms (o : Lms) : Enc.enc o = .agg [.u32 o.code, .b o.shake, .i o.n, .i o.h] := rfl
@[go_sem] theorem ret_lms (o : Lms) : Enc.ret o = .agg [.u32 o.code, .b o.shake, .i o.n, .i o.h] := rfl
@[go_sem] theorem ok_lms (c : BitVec 32) (s : Bool) (n h : Int) : Enc.ok Lms (.agg [.u32 c, .b s, .i n, .i h]) = True := rfl
@[go_sem] theorem dec_lms (c : BitVec 32) (s : Bool) (n h : Int) : (Enc.dec (.agg [.u32 c, .b s, .i n, .i h]) : Lms) = ⟨c, s, n, h⟩ := rfl

/-- a code of our own: its family and height -/
def ownS (c : BitVec 32) : Option (Nat × Nat) :=
  if 4026531840 ≤ c.toNat ∧ c.toNat < 4026531904 then some ((c.toNat - 4026531840) / 16, (c.toNat - 4026531840) % 16) else none
def ownR (c : BitVec 32) : AV := match ownS c with
  | some (f, h) => .tup [.i f, .i h, .b (decide (1 ≤ h ∧ h ≤ 4))]
  | none => .tup [.i 0, .i 0, .b false]

theorem own_fun (c : BitVec 32) : Fun Try.prog [] 100 [Enc.enc c, Enc.enc (4026531840 : BitVec 32)] (ownR c) := by
  refine Fun_cc [] mo Try.func100 (by decide) cc100 rs100 Try.ntmps100 (by simp) ?_
  by_cases h : 4026531840 ≤ c.toNat ∧ c.toNat < 4026531904
  · have h1 : ¬ (c < 4026531840#32) := by rw [BitVec.lt_def]; simp; omega
    have h2 : ¬ (4026531904#32 ≤ c) := by rw [BitVec.le_def]; simp; omega
    obtain ⟨k, hk⟩ : ∃ k, k = c.toNat - 4026531840 := ⟨_, rfl⟩
    obtain ⟨d, hd⟩ : ∃ d, d = c - 4026531840#32 := ⟨_, rfl⟩
    have hd' : c - (4026531840 : BitVec 32) = d := hd.symm
    have f1 : d.toNat = k := by rw [hd, BitVec.toNat_sub]; simp; omega
    have hR : ownR c = .tup [.i (k / 16 : Nat), .i (k % 16 : Nat), .b (decide (1 ≤ k % 16 ∧ k % 16 ≤ 4))] := by rw [ownR, ownS, if_pos h, ← hk]
    rw [hR]
    have hk2 : k < 64 := by omega
    by_cases h3 : (1 : Int) ≤ (k : Int) % 16
    · have h5 : 1 ≤ k % 16 := by omega
      refine AW_run CtOK_nil 1000 ?_
      simp (maxSteps := 10000000) (disch := omega) only [go_sem, c100, h1, h2, h3, hd', ← hd, f1, Int.tmod_eq_emod_of_nonneg, Int.tdiv_eq_ediv_of_nonneg, reduceIte, Nat.reduceAdd, Nat.reduceSub, Nat.reduceMul, Nat.reduceDiv, Nat.reduceMod, Nat.reducePow, Nat.reduceLT, Nat.reduceLeDiff, Nat.reduceBEq, Nat.reduceEqDiff, Nat.reduceAnd, Int.reduceLT, Int.reduceLE, Int.reduceEq, Int.reduceAdd, Int.reduceSub, Int.reduceMul, Int.reduceDiv, Int.reduceMod, Int.reducePow, Int.reduceToNat, Int.reduceNatCast, Int.reduceNeg, BitVec.reduceAdd, BitVec.reduceSub, BitVec.reduceMul, BitVec.reduceUDiv, BitVec.reduceUMod, BitVec.reduceDiv, BitVec.reduceMod, BitVec.reduceLT, BitVec.reduceLE, BitVec.reduceEq, BitVec.reduceToNat, BitVec.reduceToInt, BitVec.reduceOfInt, BitVec.reduceSetWidth, BitVec.reduceAnd, BitVec.reduceOr, BitVec.reduceXOr, BitVec.reduceNot, BitVec.reduceHShiftLeft, BitVec.reduceHShiftRight]
      have e3 : ((k : Int) % 16 ≤ 4) = (k % 16 ≤ 4) := by apply propext; omega
      simp [h5, e3]
    · have h5 : ¬ 1 ≤ k % 16 := by omega
      refine AW_run CtOK_nil 1000 ?_
      simp (maxSteps := 10000000) (disch := omega) only [go_sem, c100, h1, h2, h3, hd', ← hd, f1, Int.tmod_eq_emod_of_nonneg, Int.tdiv_eq_ediv_of_nonneg, reduceIte, Nat.reduceAdd, Nat.reduceSub, Nat.reduceMul, Nat.reduceDiv, Nat.reduceMod, Nat.reducePow, Nat.reduceLT, Nat.reduceLeDiff, Nat.reduceBEq, Nat.reduceEqDiff, Nat.reduceAnd, Int.reduceLT, Int.reduceLE, Int.reduceEq, Int.reduceAdd, Int.reduceSub, Int.reduceMul, Int.reduceDiv, Int.reduceMod, Int.reducePow, Int.reduceToNat, Int.reduceNatCast, Int.reduceNeg, BitVec.reduceAdd, BitVec.reduceSub, BitVec.reduceMul, BitVec.reduceUDiv, BitVec.reduceUMod, BitVec.reduceDiv, BitVec.reduceMod, BitVec.reduceLT, BitVec.reduceLE, BitVec.reduceEq, BitVec.reduceToNat, BitVec.reduceToInt, BitVec.reduceOfInt, BitVec.reduceSetWidth, BitVec.reduceAnd, BitVec.reduceOr, BitVec.reduceXOr, BitVec.reduceNot, BitVec.reduceHShiftLeft, BitVec.reduceHShiftRight]
      simp [h5]
  · have hR : ownR c = .tup [.i 0, .i 0, .b false] := by rw [ownR, ownS, if_neg h]
    rw [hR]
    by_cases h1 : c < 4026531840#32
    · refine AW_run CtOK_nil 1000 ?_
      simp (maxSteps := 10000000) (disch := omega) only [go_sem, c100, h1, reduceIte, Nat.reduceAdd, Nat.reduceSub, Nat.reduceMul, Nat.reduceDiv, Nat.reduceMod, Nat.reducePow, Nat.reduceLT, Nat.reduceLeDiff, Nat.reduceBEq, Nat.reduceEqDiff, Nat.reduceAnd, Int.reduceLT, Int.reduceLE, Int.reduceEq, Int.reduceAdd, Int.reduceSub, Int.reduceMul, Int.reduceDiv, Int.reduceMod, Int.reducePow, Int.reduceToNat, Int.reduceNatCast, Int.reduceNeg, BitVec.reduceAdd, BitVec.reduceSub, BitVec.reduceMul, BitVec.reduceUDiv, BitVec.reduceUMod, BitVec.reduceDiv, BitVec.reduceMod, BitVec.reduceLT, BitVec.reduceLE, BitVec.reduceEq, BitVec.reduceToNat, BitVec.reduceToInt, BitVec.reduceOfInt, BitVec.reduceSetWidth, BitVec.reduceAnd, BitVec.reduceOr, BitVec.reduceXOr, BitVec.reduceNot, BitVec.reduceHShiftLeft, BitVec.reduceHShiftRight]
    · have h2 : 4026531904#32 ≤ c := by
        rw [BitVec.lt_def] at h1
        rw [BitVec.le_def]; simp at h1 ⊢; omega
      refine AW_run CtOK_nil 1000 ?_
      simp (maxSteps := 10000000) (disch := omega) only [go_sem, c100, h1, h2, reduceIte, Nat.reduceAdd, Nat.reduceSub, Nat.reduceMul, Nat.reduceDiv, Nat.reduceMod, Nat.reducePow, Nat.reduceLT, Nat.reduceLeDiff, Nat.reduceBEq, Nat.reduceEqDiff, Nat.reduceAnd, Int.reduceLT, Int.reduceLE, Int.reduceEq, Int.reduceAdd, Int.reduceSub, Int.reduceMul, Int.reduceDiv, Int.reduceMod, Int.reducePow, Int.reduceToNat, Int.reduceNatCast, Int.reduceNeg, BitVec.reduceAdd, BitVec.reduceSub, BitVec.reduceMul, BitVec.reduceUDiv, BitVec.reduceUMod, BitVec.reduceDiv, BitVec.reduceMod, BitVec.reduceLT, BitVec.reduceLE, BitVec.reduceEq, BitVec.reduceToNat, BitVec.reduceToInt, BitVec.reduceOfInt, BitVec.reduceSetWidth, BitVec.reduceAnd, BitVec.reduceOr, BitVec.reduceXOr, BitVec.reduceNot, BitVec.reduceHShiftLeft, BitVec.reduceHShiftRight]

theorem rown_fun (c : BitVec 32) : Fun Try.prog [] 88 [Enc.enc c, Enc.enc (4026531840 : BitVec 32)] (ownR c) := by
  refine Fun_cc [] mo Try.func88 (by decide) cc88 rs88 Try.ntmps88 (by simp) ?_
  by_cases h : 4026531840 ≤ c.toNat ∧ c.toNat < 4026531904
  · have h1 : ¬ (c < 4026531840#32) := by rw [BitVec.lt_def]; simp; omega
    have h2 : ¬ (4026531903#32 < c) := by rw [BitVec.lt_def]; simp; omega
    obtain ⟨k, hk⟩ : ∃ k, k = c.toNat - 4026531840 := ⟨_, rfl⟩
    obtain ⟨d, hd⟩ : ∃ d, d = c - 4026531840#32 := ⟨_, rfl⟩
    have hd' : c - (4026531840 : BitVec 32) = d := hd.symm
    have f1 : d.toNat = k := by rw [hd, BitVec.toNat_sub]; simp; omega
    have hR : ownR c = .tup [.i (k / 16 : Nat), .i (k % 16 : Nat), .b (decide (1 ≤ k % 16 ∧ k % 16 ≤ 4))] := by rw [ownR, ownS, if_pos h, ← hk]
    rw [hR]
    have hk2 : k < 64 := by omega
    by_cases h3 : (1 : Int) ≤ (k : Int) % 16
    · have h5 : 1 ≤ k % 16 := by omega
      refine AW_run CtOK_nil 1000 ?_
      simp (maxSteps := 10000000) (disch := omega) only [go_sem, c88, h1, h2, h3, hd', ← hd, f1, Int.tmod_eq_emod_of_nonneg, Int.tdiv_eq_ediv_of_nonneg, reduceIte, Nat.reduceAdd, Nat.reduceSub, Nat.reduceMul, Nat.reduceDiv, Nat.reduceMod, Nat.reducePow, Nat.reduceLT, Nat.reduceLeDiff, Nat.reduceBEq, Nat.reduceEqDiff, Nat.reduceAnd, Int.reduceLT, Int.reduceLE, Int.reduceEq, Int.reduceAdd, Int.reduceSub, Int.reduceMul, Int.reduceDiv, Int.reduceMod, Int.reducePow, Int.reduceToNat, Int.reduceNatCast, Int.reduceNeg, BitVec.reduceAdd, BitVec.reduceSub, BitVec.reduceMul, BitVec.reduceUDiv, BitVec.reduceUMod, BitVec.reduceDiv, BitVec.reduceMod, BitVec.reduceLT, BitVec.reduceLE, BitVec.reduceEq, BitVec.reduceToNat, BitVec.reduceToInt, BitVec.reduceOfInt, BitVec.reduceSetWidth, BitVec.reduceAnd, BitVec.reduceOr, BitVec.reduceXOr, BitVec.reduceNot, BitVec.reduceHShiftLeft, BitVec.reduceHShiftRight]
      have e3 : ((k : Int) % 16 ≤ 4) = (k % 16 ≤ 4) := by apply propext; omega
      simp [h5, e3]
    · have h5 : ¬ 1 ≤ k % 16 := by omega
      refine AW_run CtOK_nil 1000 ?_
      simp (maxSteps := 10000000) (disch := omega) only [go_sem, c88, h1, h2, h3, hd', ← hd, f1, Int.tmod_eq_emod_of_nonneg, Int.tdiv_eq_ediv_of_nonneg, reduceIte, Nat.reduceAdd, Nat.reduceSub, Nat.reduceMul, Nat.reduceDiv, Nat.reduceMod, Nat.reducePow, Nat.reduceLT, Nat.reduceLeDiff, Nat.reduceBEq, Nat.reduceEqDiff, Nat.reduceAnd, Int.reduceLT, Int.reduceLE, Int.reduceEq, Int.reduceAdd, Int.reduceSub, Int.reduceMul, Int.reduceDiv, Int.reduceMod, Int.reducePow, Int.reduceToNat, Int.reduceNatCast, Int.reduceNeg, BitVec.reduceAdd, BitVec.reduceSub, BitVec.reduceMul, BitVec.reduceUDiv, BitVec.reduceUMod, BitVec.reduceDiv, BitVec.reduceMod, BitVec.reduceLT, BitVec.reduceLE, BitVec.reduceEq, BitVec.reduceToNat, BitVec.reduceToInt, BitVec.reduceOfInt, BitVec.reduceSetWidth, BitVec.reduceAnd, BitVec.reduceOr, BitVec.reduceXOr, BitVec.reduceNot, BitVec.reduceHShiftLeft, BitVec.reduceHShiftRight]
      simp [h5]
  · have hR : ownR c = .tup [.i 0, .i 0, .b false] := by rw [ownR, ownS, if_neg h]
    rw [hR]
    by_cases h1 : c < 4026531840#32
    · refine AW_run CtOK_nil 1000 ?_
      simp (maxSteps := 10000000) (disch := omega) only [go_sem, c88, h1, reduceIte, Nat.reduceAdd, Nat.reduceSub, Nat.reduceMul, Nat.reduceDiv, Nat.reduceMod, Nat.reducePow, Nat.reduceLT, Nat.reduceLeDiff, Nat.reduceBEq, Nat.reduceEqDiff, Nat.reduceAnd, Int.reduceLT, Int.reduceLE, Int.reduceEq, Int.reduceAdd, Int.reduceSub, Int.reduceMul, Int.reduceDiv, Int.reduceMod, Int.reducePow, Int.reduceToNat, Int.reduceNatCast, Int.reduceNeg, BitVec.reduceAdd, BitVec.reduceSub, BitVec.reduceMul, BitVec.reduceUDiv, BitVec.reduceUMod, BitVec.reduceDiv, BitVec.reduceMod, BitVec.reduceLT, BitVec.reduceLE, BitVec.reduceEq, BitVec.reduceToNat, BitVec.reduceToInt, BitVec.reduceOfInt, BitVec.reduceSetWidth, BitVec.reduceAnd, BitVec.reduceOr, BitVec.reduceXOr, BitVec.reduceNot, BitVec.reduceHShiftLeft, BitVec.reduceHShiftRight]
    · have h2 : 4026531903#32 < c := by
        rw [BitVec.lt_def] at h1
        rw [BitVec.lt_def]; simp at h1 ⊢; omega
      refine AW_run CtOK_nil 1000 ?_
      simp (maxSteps := 10000000) (disch := omega) only [go_sem, c88, h1, h2, reduceIte, Nat.reduceAdd, Nat.reduceSub, Nat.reduceMul, Nat.reduceDiv, Nat.reduceMod, Nat.reducePow, Nat.reduceLT, Nat.reduceLeDiff, Nat.reduceBEq, Nat.reduceEqDiff, Nat.reduceAnd, Int.reduceLT, Int.reduceLE, Int.reduceEq, Int.reduceAdd, Int.reduceSub, Int.reduceMul, Int.reduceDiv, Int.reduceMod, Int.reducePow, Int.reduceToNat, Int.reduceNatCast, Int.reduceNeg, BitVec.reduceAdd, BitVec.reduceSub, BitVec.reduceMul, BitVec.reduceUDiv, BitVec.reduceUMod, BitVec.reduceDiv, BitVec.reduceMod, BitVec.reduceLT, BitVec.reduceLE, BitVec.reduceEq, BitVec.reduceToNat, BitVec.reduceToInt, BitVec.reduceOfInt, BitVec.reduceSetWidth, BitVec.reduceAnd, BitVec.reduceOr, BitVec.reduceXOr, BitVec.reduceNot, BitVec.reduceHShiftLeft, BitVec.reduceHShiftRight]
def ownT (n : Nat) : Nat × (List AV → R) := (n, A2 fun c f : BitVec 32 => (f = 4026531840, ownR c))
theorem ctOwn_ok {Ct : List (Nat × (List AV → R))} (h : CtOK Try.prog [] Ct) : CtOK Try.prog [] (ownT 100 :: Ct) := CtOK_cons (Row2 fun c f h => by obtain rfl := h; exact own_fun c) h
theorem ctROwn_ok {Ct : List (Nat × (List AV → R))} (h : CtOK Try.prog [] Ct) : CtOK Try.prog [] (ownT 88 :: Ct) := CtOK_cons (Row2 fun c f h => by obtain rfl := h; exact rown_fun c) h

/-- the sets of LMS -/
def lmsF (c : BitVec 32) : Option (Nat × Nat) :=
  if 5 ≤ c.toNat ∧ c.toNat ≤ 24 then some ((c.toNat - 5) / 5, 5 * ((c.toNat - 5) % 5 + 1))
  else match ownS c with
    | some (f, h) => if 1 ≤ h ∧ h ≤ 4 then some (f, h) else none
    | none => none
def lmsT (c : BitVec 32) : Option Lms := (lmsF c).map fun p => ⟨c, decide (2 ≤ p.1), if p.1 % 2 = 1 then 24 else 32, p.2⟩
def lms0 : Lms := ⟨0, false, 0, 0⟩
def lmsR (c : BitVec 32) : AV := match lmsT c with
  | some o => .tup [Enc.enc o, .i 0]
  | none => .tup [Enc.enc lms0, .i 60]
theorem hashedS_eq (f : Nat) (h : f < 4) : hashedS f = (decide (2 ≤ f), if f % 2 = 1 then 24 else 32) := by
  rcases (by omega : f = 0 ∨ f = 1 ∨ f = 2 ∨ f = 3) with rfl | rfl | rfl | rfl <;> rfl
theorem rbytes_eq (f : Nat) : ((f : Int) % 2 = 1) = (f % 2 = 1) := by apply propext; omega

set_option maxHeartbeats 1000000 in
theorem Lms_fun (c : BitVec 32) : Fun Try.prog [] 84 [Enc.enc c] (lmsR c) := by
  refine Fun_cc [ownT 100, ctHashed] mo Try.func84 (by decide) cc84 rs84 Try.ntmps84 (by simp) ?_
  have hct := ctOwn_ok (ctHashed_ok CtOK_nil)
  by_cases h : 5 ≤ c.toNat ∧ c.toNat ≤ 24
  · have h1 : 5#32 ≤ c := by rw [BitVec.le_def]; simp; omega
    have h2 : c ≤ 24#32 := by rw [BitVec.le_def]; simp; omega
    obtain ⟨k, hk⟩ : ∃ k, k = c.toNat - 5 := ⟨_, rfl⟩
    have hk2 : k < 20 := by omega
    obtain ⟨d, hd⟩ : ∃ d, d = c - 5#32 := ⟨_, rfl⟩
    have hd' : c - (5 : BitVec 32) = d := hd.symm
    have f1 : d.toNat = k := by rw [hd, BitVec.toNat_sub]; simp; omega
    have hO : ownR c = .tup [.i 0, .i 0, .b false] := by rw [ownR, ownS, if_neg (by omega)]
    have hT : lmsT c = some ⟨c, decide (2 ≤ k / 5), if k / 5 % 2 = 1 then 24 else 32, (5 * (k % 5 + 1) : Nat)⟩ := by
      rw [lmsT, lmsF, if_pos h, ← hk]; rfl
    have hR : lmsR c = .tup [.agg [.u32 c, .b (decide (2 ≤ k / 5)), .i (if k / 5 % 2 = 1 then 24 else 32), .i (5 * (k % 5 + 1) : Nat)], .i 0] := by rw [lmsR, hT]; rfl
    rw [hR]
    have hh := hashedS_eq (k / 5) (by omega)
    have e5 : ((k : Int) / 5) = ((k / 5 : Nat) : Int) := by omega
    refine AW_run hct 1000 ?_
    simp (maxSteps := 10000000) (disch := omega) only [go_sem, c84, ownT, hO, h1, h2, hd', ← hd, f1, ctHashed, Int.tmod_eq_emod_of_nonneg, Int.tdiv_eq_ediv_of_nonneg, e5, hh, reduceIte, Nat.reduceAdd, Nat.reduceSub, Nat.reduceMul, Nat.reduceDiv, Nat.reduceMod, Nat.reducePow, Nat.reduceLT, Nat.reduceLeDiff, Nat.reduceBEq, Nat.reduceEqDiff, Nat.reduceAnd, Int.reduceLT, Int.reduceLE, Int.reduceEq, Int.reduceAdd, Int.reduceSub, Int.reduceMul, Int.reduceDiv, Int.reduceMod, Int.reducePow, Int.reduceToNat, Int.reduceNatCast, Int.reduceNeg, BitVec.reduceAdd, BitVec.reduceSub, BitVec.reduceMul, BitVec.reduceUDiv, BitVec.reduceUMod, BitVec.reduceDiv, BitVec.reduceMod, BitVec.reduceLT, BitVec.reduceLE, BitVec.reduceEq, BitVec.reduceToNat, BitVec.reduceToInt, BitVec.reduceOfInt, BitVec.reduceSetWidth, BitVec.reduceAnd, BitVec.reduceOr, BitVec.reduceXOr, BitVec.reduceNot, BitVec.reduceHShiftLeft, BitVec.reduceHShiftRight]
    try simp
  · have hA : ¬ (5#32 ≤ c) ∨ ¬ (c ≤ 24#32) := by
      rw [BitVec.le_def, BitVec.le_def]; simp; omega
    cases hS : ownS c with
    | none =>
      have hO : ownR c = .tup [.i 0, .i 0, .b false] := by rw [ownR, hS]
      have hR : lmsR c = .tup [.agg [.u32 0, .b false, .i 0, .i 0], .i 60] := by rw [lmsR, lmsT, lmsF, if_neg h, hS]; rfl
      rw [hR]
      by_cases h1 : 5#32 ≤ c
      · have h2 : ¬ (c ≤ 24#32) := hA.resolve_left (fun e => e h1)
        refine AW_run hct 1000 ?_
        simp (maxSteps := 10000000) (disch := omega) only [go_sem, c84, ownT, hO, h1, h2, ctHashed, reduceIte, Nat.reduceAdd, Nat.reduceSub, Nat.reduceMul, Nat.reduceDiv, Nat.reduceMod, Nat.reducePow, Nat.reduceLT, Nat.reduceLeDiff, Nat.reduceBEq, Nat.reduceEqDiff, Nat.reduceAnd, Int.reduceLT, Int.reduceLE, Int.reduceEq, Int.reduceAdd, Int.reduceSub, Int.reduceMul, Int.reduceDiv, Int.reduceMod, Int.reducePow, Int.reduceToNat, Int.reduceNatCast, Int.reduceNeg, BitVec.reduceAdd, BitVec.reduceSub, BitVec.reduceMul, BitVec.reduceUDiv, BitVec.reduceUMod, BitVec.reduceDiv, BitVec.reduceMod, BitVec.reduceLT, BitVec.reduceLE, BitVec.reduceEq, BitVec.reduceToNat, BitVec.reduceToInt, BitVec.reduceOfInt, BitVec.reduceSetWidth, BitVec.reduceAnd, BitVec.reduceOr, BitVec.reduceXOr, BitVec.reduceNot, BitVec.reduceHShiftLeft, BitVec.reduceHShiftRight]
      · refine AW_run hct 1000 ?_
        simp (maxSteps := 10000000) (disch := omega) only [go_sem, c84, ownT, hO, h1, ctHashed, reduceIte, Nat.reduceAdd, Nat.reduceSub, Nat.reduceMul, Nat.reduceDiv, Nat.reduceMod, Nat.reducePow, Nat.reduceLT, Nat.reduceLeDiff, Nat.reduceBEq, Nat.reduceEqDiff, Nat.reduceAnd, Int.reduceLT, Int.reduceLE, Int.reduceEq, Int.reduceAdd, Int.reduceSub, Int.reduceMul, Int.reduceDiv, Int.reduceMod, Int.reducePow, Int.reduceToNat, Int.reduceNatCast, Int.reduceNeg, BitVec.reduceAdd, BitVec.reduceSub, BitVec.reduceMul, BitVec.reduceUDiv, BitVec.reduceUMod, BitVec.reduceDiv, BitVec.reduceMod, BitVec.reduceLT, BitVec.reduceLE, BitVec.reduceEq, BitVec.reduceToNat, BitVec.reduceToInt, BitVec.reduceOfInt, BitVec.reduceSetWidth, BitVec.reduceAnd, BitVec.reduceOr, BitVec.reduceXOr, BitVec.reduceNot, BitVec.reduceHShiftLeft, BitVec.reduceHShiftRight]
    | some p =>
      obtain ⟨f, q⟩ := p
      have hf : f < 4 := by
        unfold ownS at hS
        split at hS
        · simp only [Option.some.injEq, Prod.mk.injEq] at hS; omega
        · simp at hS
      have hO : ownR c = .tup [.i f, .i q, .b (decide (1 ≤ q ∧ q ≤ 4))] := by rw [ownR, hS]
      have hh := hashedS_eq f hf
      by_cases hq : 1 ≤ q ∧ q ≤ 4
      · have hR : lmsR c = .tup [.agg [.u32 c, .b (decide (2 ≤ f)), .i (if f % 2 = 1 then 24 else 32), .i q], .i 0] := by rw [lmsR, lmsT, lmsF, if_neg h, hS]; simp only; rw [if_pos hq]; rfl
        rw [hR]
        by_cases h1 : 5#32 ≤ c
        · have h2 : ¬ (c ≤ 24#32) := hA.resolve_left (fun e => e h1)
          refine AW_run hct 1000 ?_
          simp (maxSteps := 10000000) (disch := omega) only [go_sem, c84, ownT, hO, h1, h2, ctHashed, hq, hh, and_self, decide_true, reduceIte, Nat.reduceAdd, Nat.reduceSub, Nat.reduceMul, Nat.reduceDiv, Nat.reduceMod, Nat.reducePow, Nat.reduceLT, Nat.reduceLeDiff, Nat.reduceBEq, Nat.reduceEqDiff, Nat.reduceAnd, Int.reduceLT, Int.reduceLE, Int.reduceEq, Int.reduceAdd, Int.reduceSub, Int.reduceMul, Int.reduceDiv, Int.reduceMod, Int.reducePow, Int.reduceToNat, Int.reduceNatCast, Int.reduceNeg, BitVec.reduceAdd, BitVec.reduceSub, BitVec.reduceMul, BitVec.reduceUDiv, BitVec.reduceUMod, BitVec.reduceDiv, BitVec.reduceMod, BitVec.reduceLT, BitVec.reduceLE, BitVec.reduceEq, BitVec.reduceToNat, BitVec.reduceToInt, BitVec.reduceOfInt, BitVec.reduceSetWidth, BitVec.reduceAnd, BitVec.reduceOr, BitVec.reduceXOr, BitVec.reduceNot, BitVec.reduceHShiftLeft, BitVec.reduceHShiftRight]
        · refine AW_run hct 1000 ?_
          simp (maxSteps := 10000000) (disch := omega) only [go_sem, c84, ownT, hO, h1, ctHashed, hq, hh, and_self, decide_true, reduceIte, Nat.reduceAdd, Nat.reduceSub, Nat.reduceMul, Nat.reduceDiv, Nat.reduceMod, Nat.reducePow, Nat.reduceLT, Nat.reduceLeDiff, Nat.reduceBEq, Nat.reduceEqDiff, Nat.reduceAnd, Int.reduceLT, Int.reduceLE, Int.reduceEq, Int.reduceAdd, Int.reduceSub, Int.reduceMul, Int.reduceDiv, Int.reduceMod, Int.reducePow, Int.reduceToNat, Int.reduceNatCast, Int.reduceNeg, BitVec.reduceAdd, BitVec.reduceSub, BitVec.reduceMul, BitVec.reduceUDiv, BitVec.reduceUMod, BitVec.reduceDiv, BitVec.reduceMod, BitVec.reduceLT, BitVec.reduceLE, BitVec.reduceEq, BitVec.reduceToNat, BitVec.reduceToInt, BitVec.reduceOfInt, BitVec.reduceSetWidth, BitVec.reduceAnd, BitVec.reduceOr, BitVec.reduceXOr, BitVec.reduceNot, BitVec.reduceHShiftLeft, BitVec.reduceHShiftRight]
      · have hR : lmsR c = .tup [.agg [.u32 0, .b false, .i 0, .i 0], .i 60] := by rw [lmsR, lmsT, lmsF, if_neg h, hS]; simp only; rw [if_neg hq]; rfl
        rw [hR]
        by_cases h1 : 5#32 ≤ c
        · have h2 : ¬ (c ≤ 24#32) := hA.resolve_left (fun e => e h1)
          refine AW_run hct 1000 ?_
          simp (maxSteps := 10000000) (disch := omega) only [go_sem, c84, ownT, hO, h1, h2, ctHashed, hq, decide_false, reduceIte, Nat.reduceAdd, Nat.reduceSub, Nat.reduceMul, Nat.reduceDiv, Nat.reduceMod, Nat.reducePow, Nat.reduceLT, Nat.reduceLeDiff, Nat.reduceBEq, Nat.reduceEqDiff, Nat.reduceAnd, Int.reduceLT, Int.reduceLE, Int.reduceEq, Int.reduceAdd, Int.reduceSub, Int.reduceMul, Int.reduceDiv, Int.reduceMod, Int.reducePow, Int.reduceToNat, Int.reduceNatCast, Int.reduceNeg, BitVec.reduceAdd, BitVec.reduceSub, BitVec.reduceMul, BitVec.reduceUDiv, BitVec.reduceUMod, BitVec.reduceDiv, BitVec.reduceMod, BitVec.reduceLT, BitVec.reduceLE, BitVec.reduceEq, BitVec.reduceToNat, BitVec.reduceToInt, BitVec.reduceOfInt, BitVec.reduceSetWidth, BitVec.reduceAnd, BitVec.reduceOr, BitVec.reduceXOr, BitVec.reduceNot, BitVec.reduceHShiftLeft, BitVec.reduceHShiftRight]
        · refine AW_run hct 1000 ?_
          simp (maxSteps := 10000000) (disch := omega) only [go_sem, c84, ownT, hO, h1, ctHashed, hq, decide_false, reduceIte, Nat.reduceAdd, Nat.reduceSub, Nat.reduceMul, Nat.reduceDiv, Nat.reduceMod, Nat.reducePow, Nat.reduceLT, Nat.reduceLeDiff, Nat.reduceBEq, Nat.reduceEqDiff, Nat.reduceAnd, Int.reduceLT, Int.reduceLE, Int.reduceEq, Int.reduceAdd, Int.reduceSub, Int.reduceMul, Int.reduceDiv, Int.reduceMod, Int.reducePow, Int.reduceToNat, Int.reduceNatCast, Int.reduceNeg, BitVec.reduceAdd, BitVec.reduceSub, BitVec.reduceMul, BitVec.reduceUDiv, BitVec.reduceUMod, BitVec.reduceDiv, BitVec.reduceMod, BitVec.reduceLT, BitVec.reduceLE, BitVec.reduceEq, BitVec.reduceToNat, BitVec.reduceToInt, BitVec.reduceOfInt, BitVec.reduceSetWidth, BitVec.reduceAnd, BitVec.reduceOr, BitVec.reduceXOr, BitVec.reduceNot, BitVec.reduceHShiftLeft, BitVec.reduceHShiftRight]

set_option maxHeartbeats 1000000 in
theorem rLms_fun (c : BitVec 32) : Fun Try.prog [] 59 [Enc.enc c] (lmsR c) := by
  refine Fun_cc [ownT 88, ctRbytes] mo Try.func59 (by decide) cc59 rs59 Try.ntmps59 (by simp) ?_
  have hct := ctROwn_ok (ctRbytes_ok CtOK_nil)
  by_cases h : 5 ≤ c.toNat ∧ c.toNat ≤ 24
  · have h1 : 5#32 ≤ c := by rw [BitVec.le_def]; simp; omega
    have h2 : c ≤ 24#32 := by rw [BitVec.le_def]; simp; omega
    obtain ⟨k, hk⟩ : ∃ k, k = c.toNat - 5 := ⟨_, rfl⟩
    have hk2 : k < 20 := by omega
    obtain ⟨d, hd⟩ : ∃ d, d = c - 5#32 := ⟨_, rfl⟩
    have hd' : c - (5 : BitVec 32) = d := hd.symm
    have f1 : d.toNat = k := by rw [hd, BitVec.toNat_sub]; simp; omega
    have hO : ownR c = .tup [.i 0, .i 0, .b false] := by rw [ownR, ownS, if_neg (by omega)]
    have hT : lmsT c = some ⟨c, decide (2 ≤ k / 5), if k / 5 % 2 = 1 then 24 else 32, (5 * (k % 5 + 1) : Nat)⟩ := by
      rw [lmsT, lmsF, if_pos h, ← hk]; rfl
    have hR : lmsR c = .tup [.agg [.u32 c, .b (decide (2 ≤ k / 5)), .i (if k / 5 % 2 = 1 then 24 else 32), .i (5 * (k % 5 + 1) : Nat)], .i 0] := by rw [lmsR, hT]; rfl
    rw [hR]
    have hh := rbytes_eq (k / 5)
    have e5 : ((k : Int) / 5) = ((k / 5 : Nat) : Int) := by omega
    have e6 : ((2 : Int) ≤ ((k / 5 : Nat) : Int)) = (2 ≤ k / 5) := by apply propext; omega
    refine AW_run hct 1000 ?_
    simp (maxSteps := 10000000) (disch := omega) only [go_sem, c59, ownT, hO, h1, h2, hd', ← hd, f1, ctRbytes, Int.tmod_eq_emod_of_nonneg, Int.tdiv_eq_ediv_of_nonneg, e5, e6, reduceIte, Nat.reduceAdd, Nat.reduceSub, Nat.reduceMul, Nat.reduceDiv, Nat.reduceMod, Nat.reducePow, Nat.reduceLT, Nat.reduceLeDiff, Nat.reduceBEq, Nat.reduceEqDiff, Nat.reduceAnd, Int.reduceLT, Int.reduceLE, Int.reduceEq, Int.reduceAdd, Int.reduceSub, Int.reduceMul, Int.reduceDiv, Int.reduceMod, Int.reducePow, Int.reduceToNat, Int.reduceNatCast, Int.reduceNeg, BitVec.reduceAdd, BitVec.reduceSub, BitVec.reduceMul, BitVec.reduceUDiv, BitVec.reduceUMod, BitVec.reduceDiv, BitVec.reduceMod, BitVec.reduceLT, BitVec.reduceLE, BitVec.reduceEq, BitVec.reduceToNat, BitVec.reduceToInt, BitVec.reduceOfInt, BitVec.reduceSetWidth, BitVec.reduceAnd, BitVec.reduceOr, BitVec.reduceXOr, BitVec.reduceNot, BitVec.reduceHShiftLeft, BitVec.reduceHShiftRight]
    simp only [hh]
    try simp
  · have hA : ¬ (5#32 ≤ c) ∨ ¬ (c ≤ 24#32) := by
      rw [BitVec.le_def, BitVec.le_def]; simp; omega
    cases hS : ownS c with
    | none =>
      have hO : ownR c = .tup [.i 0, .i 0, .b false] := by rw [ownR, hS]
      have hR : lmsR c = .tup [.agg [.u32 0, .b false, .i 0, .i 0], .i 60] := by rw [lmsR, lmsT, lmsF, if_neg h, hS]; rfl
      rw [hR]
      by_cases h1 : 5#32 ≤ c
      · have h2 : ¬ (c ≤ 24#32) := hA.resolve_left (fun e => e h1)
        refine AW_run hct 1000 ?_
        simp (maxSteps := 10000000) (disch := omega) only [go_sem, c59, ownT, hO, h1, h2, ctRbytes, reduceIte, Nat.reduceAdd, Nat.reduceSub, Nat.reduceMul, Nat.reduceDiv, Nat.reduceMod, Nat.reducePow, Nat.reduceLT, Nat.reduceLeDiff, Nat.reduceBEq, Nat.reduceEqDiff, Nat.reduceAnd, Int.reduceLT, Int.reduceLE, Int.reduceEq, Int.reduceAdd, Int.reduceSub, Int.reduceMul, Int.reduceDiv, Int.reduceMod, Int.reducePow, Int.reduceToNat, Int.reduceNatCast, Int.reduceNeg, BitVec.reduceAdd, BitVec.reduceSub, BitVec.reduceMul, BitVec.reduceUDiv, BitVec.reduceUMod, BitVec.reduceDiv, BitVec.reduceMod, BitVec.reduceLT, BitVec.reduceLE, BitVec.reduceEq, BitVec.reduceToNat, BitVec.reduceToInt, BitVec.reduceOfInt, BitVec.reduceSetWidth, BitVec.reduceAnd, BitVec.reduceOr, BitVec.reduceXOr, BitVec.reduceNot, BitVec.reduceHShiftLeft, BitVec.reduceHShiftRight]
      · refine AW_run hct 1000 ?_
        simp (maxSteps := 10000000) (disch := omega) only [go_sem, c59, ownT, hO, h1, ctRbytes, reduceIte, Nat.reduceAdd, Nat.reduceSub, Nat.reduceMul, Nat.reduceDiv, Nat.reduceMod, Nat.reducePow, Nat.reduceLT, Nat.reduceLeDiff, Nat.reduceBEq, Nat.reduceEqDiff, Nat.reduceAnd, Int.reduceLT, Int.reduceLE, Int.reduceEq, Int.reduceAdd, Int.reduceSub, Int.reduceMul, Int.reduceDiv, Int.reduceMod, Int.reducePow, Int.reduceToNat, Int.reduceNatCast, Int.reduceNeg, BitVec.reduceAdd, BitVec.reduceSub, BitVec.reduceMul, BitVec.reduceUDiv, BitVec.reduceUMod, BitVec.reduceDiv, BitVec.reduceMod, BitVec.reduceLT, BitVec.reduceLE, BitVec.reduceEq, BitVec.reduceToNat, BitVec.reduceToInt, BitVec.reduceOfInt, BitVec.reduceSetWidth, BitVec.reduceAnd, BitVec.reduceOr, BitVec.reduceXOr, BitVec.reduceNot, BitVec.reduceHShiftLeft, BitVec.reduceHShiftRight]
    | some p =>
      obtain ⟨f, q⟩ := p
      have hO : ownR c = .tup [.i f, .i q, .b (decide (1 ≤ q ∧ q ≤ 4))] := by rw [ownR, hS]
      have hh := rbytes_eq f
      have e6 : ((2 : Int) ≤ (f : Int)) = (2 ≤ f) := by apply propext; omega
      by_cases hq : 1 ≤ q ∧ q ≤ 4
      · have hR : lmsR c = .tup [.agg [.u32 c, .b (decide (2 ≤ f)), .i (if f % 2 = 1 then 24 else 32), .i q], .i 0] := by rw [lmsR, lmsT, lmsF, if_neg h, hS]; simp only; rw [if_pos hq]; rfl
        rw [hR]
        by_cases h1 : 5#32 ≤ c
        · have h2 : ¬ (c ≤ 24#32) := hA.resolve_left (fun e => e h1)
          refine AW_run hct 1000 ?_
          simp (maxSteps := 10000000) (disch := omega) only [go_sem, c59, ownT, hO, h1, h2, ctRbytes, hq, e6, and_self, decide_true, reduceIte, Nat.reduceAdd, Nat.reduceSub, Nat.reduceMul, Nat.reduceDiv, Nat.reduceMod, Nat.reducePow, Nat.reduceLT, Nat.reduceLeDiff, Nat.reduceBEq, Nat.reduceEqDiff, Nat.reduceAnd, Int.reduceLT, Int.reduceLE, Int.reduceEq, Int.reduceAdd, Int.reduceSub, Int.reduceMul, Int.reduceDiv, Int.reduceMod, Int.reducePow, Int.reduceToNat, Int.reduceNatCast, Int.reduceNeg, BitVec.reduceAdd, BitVec.reduceSub, BitVec.reduceMul, BitVec.reduceUDiv, BitVec.reduceUMod, BitVec.reduceDiv, BitVec.reduceMod, BitVec.reduceLT, BitVec.reduceLE, BitVec.reduceEq, BitVec.reduceToNat, BitVec.reduceToInt, BitVec.reduceOfInt, BitVec.reduceSetWidth, BitVec.reduceAnd, BitVec.reduceOr, BitVec.reduceXOr, BitVec.reduceNot, BitVec.reduceHShiftLeft, BitVec.reduceHShiftRight]
          simp only [hh]
        · refine AW_run hct 1000 ?_
          simp (maxSteps := 10000000) (disch := omega) only [go_sem, c59, ownT, hO, h1, ctRbytes, hq, e6, and_self, decide_true, reduceIte, Nat.reduceAdd, Nat.reduceSub, Nat.reduceMul, Nat.reduceDiv, Nat.reduceMod, Nat.reducePow, Nat.reduceLT, Nat.reduceLeDiff, Nat.reduceBEq, Nat.reduceEqDiff, Nat.reduceAnd, Int.reduceLT, Int.reduceLE, Int.reduceEq, Int.reduceAdd, Int.reduceSub, Int.reduceMul, Int.reduceDiv, Int.reduceMod, Int.reducePow, Int.reduceToNat, Int.reduceNatCast, Int.reduceNeg, BitVec.reduceAdd, BitVec.reduceSub, BitVec.reduceMul, BitVec.reduceUDiv, BitVec.reduceUMod, BitVec.reduceDiv, BitVec.reduceMod, BitVec.reduceLT, BitVec.reduceLE, BitVec.reduceEq, BitVec.reduceToNat, BitVec.reduceToInt, BitVec.reduceOfInt, BitVec.reduceSetWidth, BitVec.reduceAnd, BitVec.reduceOr, BitVec.reduceXOr, BitVec.reduceNot, BitVec.reduceHShiftLeft, BitVec.reduceHShiftRight]
          simp only [hh]
      · have hR : lmsR c = .tup [.agg [.u32 0, .b false, .i 0, .i 0], .i 60] := by rw [lmsR, lmsT, lmsF, if_neg h, hS]; simp only; rw [if_neg hq]; rfl
        rw [hR]
        by_cases h1 : 5#32 ≤ c
        · have h2 : ¬ (c ≤ 24#32) := hA.resolve_left (fun e => e h1)
          refine AW_run hct 1000 ?_
          simp (maxSteps := 10000000) (disch := omega) only [go_sem, c59, ownT, hO, h1, h2, ctRbytes, hq, decide_false, reduceIte, Nat.reduceAdd, Nat.reduceSub, Nat.reduceMul, Nat.reduceDiv, Nat.reduceMod, Nat.reducePow, Nat.reduceLT, Nat.reduceLeDiff, Nat.reduceBEq, Nat.reduceEqDiff, Nat.reduceAnd, Int.reduceLT, Int.reduceLE, Int.reduceEq, Int.reduceAdd, Int.reduceSub, Int.reduceMul, Int.reduceDiv, Int.reduceMod, Int.reducePow, Int.reduceToNat, Int.reduceNatCast, Int.reduceNeg, BitVec.reduceAdd, BitVec.reduceSub, BitVec.reduceMul, BitVec.reduceUDiv, BitVec.reduceUMod, BitVec.reduceDiv, BitVec.reduceMod, BitVec.reduceLT, BitVec.reduceLE, BitVec.reduceEq, BitVec.reduceToNat, BitVec.reduceToInt, BitVec.reduceOfInt, BitVec.reduceSetWidth, BitVec.reduceAnd, BitVec.reduceOr, BitVec.reduceXOr, BitVec.reduceNot, BitVec.reduceHShiftLeft, BitVec.reduceHShiftRight]
        · refine AW_run hct 1000 ?_
          simp (maxSteps := 10000000) (disch := omega) only [go_sem, c59, ownT, hO, h1, ctRbytes, hq, decide_false, reduceIte, Nat.reduceAdd, Nat.reduceSub, Nat.reduceMul, Nat.reduceDiv, Nat.reduceMod, Nat.reducePow, Nat.reduceLT, Nat.reduceLeDiff, Nat.reduceBEq, Nat.reduceEqDiff, Nat.reduceAnd, Int.reduceLT, Int.reduceLE, Int.reduceEq, Int.reduceAdd, Int.reduceSub, Int.reduceMul, Int.reduceDiv, Int.reduceMod, Int.reducePow, Int.reduceToNat, Int.reduceNatCast, Int.reduceNeg, BitVec.reduceAdd, BitVec.reduceSub, BitVec.reduceMul, BitVec.reduceUDiv, BitVec.reduceUMod, BitVec.reduceDiv, BitVec.reduceMod, BitVec.reduceLT, BitVec.reduceLE, BitVec.reduceEq, BitVec.reduceToNat, BitVec.reduceToInt, BitVec.reduceOfInt, BitVec.reduceSetWidth, BitVec.reduceAnd, BitVec.reduceOr, BitVec.reduceXOr, BitVec.reduceNot, BitVec.reduceHShiftLeft, BitVec.reduceHShiftRight]
end Go.Lv
