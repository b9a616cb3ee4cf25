/- A part of the proof (GY). -/
import Derived.Test.YtffmejeeddplaaaGreatDoorGT
import Derived.Test.YtffmejeeddplaaaGreatDoorGK
set_option linter.all false
namespace Go.Lv
open Go Go.Proofs
set_option linter.unusedSimpArgs false
set_option maxRecDepth 100000
structure Lms where
  code : BitVec 32
  shake : Bool
  n : Int
  h : Int
  deriving DecidableEq
def Lms.av (o : Lms) : AV := .agg [.u32 o.code, .b o.shake, .i o.n, .i o.h]
def Lms.of : AV → Lms
  | .agg [.u32 c, .b s, .i n, .i h] => ⟨c, s, n, h⟩
  | _ => ⟨0, false, 0, 0⟩
def Lms.is : AV → Prop
  | .agg [.u32 _, .b _, .i _, .i _] => True
  | _ => False
instance : Enc Lms where
  enc := Lms.av
  ret := Lms.av
  ok := Lms.is
  dec := Lms.of
  dflt := ⟨0, false, 0, 0⟩
  d := 2
  sound x h := by
    unfold Lms.is at h
    split at h
    · rfl
    · exact h.elim
  fz H k x h := by obtain ⟨k, rfl⟩ := Nat.exists_eq_add_of_le' h; exact ⟨rfl, rfl, rfl, rfl⟩
  ow x := ⟨rfl, rfl⟩
  cl x := rfl
  rn m x := ⟨rfl, rfl⟩
  ik n x := by constructor <;> simp [Lms.av, idk, idk.idkL]
@[go_sem] theorem enc_lms (o : Lms) : Enc.enc o = .agg [.u32 o.code, .b o.shake, .i o.n, .i o.h] := rfl
@[go_sem] theorem ret_lms (o : Lms) : Enc.ret o = .agg [.u32 o.code, .b o.shake, .i o.n, .i o.h] := rfl
@[go_sem] theorem ok_lms (c : BitVec 32) (s : Bool) (n h : Int) : Enc.ok Lms (.agg [.u32 c, .b s, .i n, .i h]) = True := rfl
@[go_sem] theorem dec_lms (c : BitVec 32) (s : Bool) (n h : Int) : (Enc.dec (.agg [.u32 c, .b s, .i n, .i h]) : Lms) = ⟨c, s, n, h⟩ := rfl
def ownS (c : BitVec 32) : Option (Nat × Nat) :=
  if 4026531840 ≤ c.toNat ∧ c.toNat < 4026531904 then some ((c.toNat - 4026531840) / 16, (c.toNat - 4026531840) % 16) else none
def ownR (c : BitVec 32) : AV := match ownS c with
  | some (f, h) => .tup [.i f, .i h, .b (decide (1 ≤ h ∧ h ≤ 4))]
  | none => .tup [.i 0, .i 0, .b false]
theorem own_fun (c : BitVec 32) : Fun Tryz.prog Gs 130 [Enc.enc c, Enc.enc (4026531840 : BitVec 32)] (ownR c) := by
  refine Fun_cc [] mo Tryz.func130 (by decide) cc130 rs130 Tryz.ntmps130 (by simp) ?_
  by_cases h : 4026531840 ≤ c.toNat ∧ c.toNat < 4026531904
  · have h1 : ¬ (c < 4026531840#32) := by rw [BitVec.lt_def]; simp; omega
    have h2 : ¬ (4026531904#32 ≤ c) := by rw [BitVec.le_def]; simp; omega
    obtain ⟨k, hk⟩ : ∃ k, k = c.toNat - 4026531840 := ⟨_, rfl⟩
    obtain ⟨d, hd⟩ : ∃ d, d = c - 4026531840#32 := ⟨_, rfl⟩
    have hd' : c - (4026531840 : BitVec 32) = d := hd.symm
    have f1 : d.toNat = k := by rw [hd, BitVec.toNat_sub]; simp; omega
    have hR : ownR c = .tup [.i (k / 16 : Nat), .i (k % 16 : Nat), .b (decide (1 ≤ k % 16 ∧ k % 16 ≤ 4))] := by rw [ownR, ownS, if_pos h, ← hk]
    rw [hR]
    have hk2 : k < 64 := by omega
    by_cases h3 : (1 : Int) ≤ (k : Int) % 16
    · have h5 : 1 ≤ k % 16 := by omega
      refine AW_run CtOK_nil 1000 ?_
      simp (maxSteps := 10000000) (disch := omega) only [go_sem, c130, h1, h2, h3, hd', ← hd, f1, Int.tmod_eq_emod_of_nonneg, Int.tdiv_eq_ediv_of_nonneg, reduceIte, seval, -BitVec.isValue, -BitVec.reduceOfNat, -List.reduceReplicate]
      have e3 : ((k : Int) % 16 ≤ 4) = (k % 16 ≤ 4) := by apply propext; omega
      simp [h5, e3]
    · have h5 : ¬ 1 ≤ k % 16 := by omega
      refine AW_run CtOK_nil 1000 ?_
      simp (maxSteps := 10000000) (disch := omega) only [go_sem, c130, h1, h2, h3, hd', ← hd, f1, Int.tmod_eq_emod_of_nonneg, Int.tdiv_eq_ediv_of_nonneg, reduceIte, seval, -BitVec.isValue, -BitVec.reduceOfNat, -List.reduceReplicate]
      simp [h5]
  · have hR : ownR c = .tup [.i 0, .i 0, .b false] := by rw [ownR, ownS, if_neg h]
    rw [hR]
    by_cases h1 : c < 4026531840#32
    · refine AW_run CtOK_nil 1000 ?_
      simp (maxSteps := 10000000) (disch := omega) only [go_sem, c130, h1, reduceIte, seval, -BitVec.isValue, -BitVec.reduceOfNat, -List.reduceReplicate]
    · have h2 : 4026531904#32 ≤ c := by
        rw [BitVec.lt_def] at h1
        rw [BitVec.le_def]; simp at h1 ⊢; omega
      refine AW_run CtOK_nil 1000 ?_
      simp (maxSteps := 10000000) (disch := omega) only [go_sem, c130, h1, h2, reduceIte, seval, -BitVec.isValue, -BitVec.reduceOfNat, -List.reduceReplicate]
theorem rown_fun (c : BitVec 32) : Fun Tryz.prog Gs 116 [Enc.enc c, Enc.enc (4026531840 : BitVec 32)] (ownR c) := by
  refine Fun_cc [] mo Tryz.func116 (by decide) cc116 rs116 Tryz.ntmps116 (by simp) ?_
  by_cases h : 4026531840 ≤ c.toNat ∧ c.toNat < 4026531904
  · have h1 : ¬ (c < 4026531840#32) := by rw [BitVec.lt_def]; simp; omega
    have h2 : ¬ (4026531903#32 < c) := by rw [BitVec.lt_def]; simp; omega
    obtain ⟨k, hk⟩ : ∃ k, k = c.toNat - 4026531840 := ⟨_, rfl⟩
    obtain ⟨d, hd⟩ : ∃ d, d = c - 4026531840#32 := ⟨_, rfl⟩
    have hd' : c - (4026531840 : BitVec 32) = d := hd.symm
    have f1 : d.toNat = k := by rw [hd, BitVec.toNat_sub]; simp; omega
    have hR : ownR c = .tup [.i (k / 16 : Nat), .i (k % 16 : Nat), .b (decide (1 ≤ k % 16 ∧ k % 16 ≤ 4))] := by rw [ownR, ownS, if_pos h, ← hk]
    rw [hR]
    have hk2 : k < 64 := by omega
    by_cases h3 : (1 : Int) ≤ (k : Int) % 16
    · have h5 : 1 ≤ k % 16 := by omega
      refine AW_run CtOK_nil 1000 ?_
      simp (maxSteps := 10000000) (disch := omega) only [go_sem, c116, h1, h2, h3, hd', ← hd, f1, Int.tmod_eq_emod_of_nonneg, Int.tdiv_eq_ediv_of_nonneg, reduceIte, seval, -BitVec.isValue, -BitVec.reduceOfNat, -List.reduceReplicate]
      have e3 : ((k : Int) % 16 ≤ 4) = (k % 16 ≤ 4) := by apply propext; omega
      simp [h5, e3]
    · have h5 : ¬ 1 ≤ k % 16 := by omega
      refine AW_run CtOK_nil 1000 ?_
      simp (maxSteps := 10000000) (disch := omega) only [go_sem, c116, h1, h2, h3, hd', ← hd, f1, Int.tmod_eq_emod_of_nonneg, Int.tdiv_eq_ediv_of_nonneg, reduceIte, seval, -BitVec.isValue, -BitVec.reduceOfNat, -List.reduceReplicate]
      simp [h5]
  · have hR : ownR c = .tup [.i 0, .i 0, .b false] := by rw [ownR, ownS, if_neg h]
    rw [hR]
    by_cases h1 : c < 4026531840#32
    · refine AW_run CtOK_nil 1000 ?_
      simp (maxSteps := 10000000) (disch := omega) only [go_sem, c116, h1, reduceIte, seval, -BitVec.isValue, -BitVec.reduceOfNat, -List.reduceReplicate]
    · have h2 : 4026531903#32 < c := by
        rw [BitVec.lt_def] at h1
        rw [BitVec.lt_def]; simp at h1 ⊢; omega
      refine AW_run CtOK_nil 1000 ?_
      simp (maxSteps := 10000000) (disch := omega) only [go_sem, c116, h1, h2, reduceIte, seval, -BitVec.isValue, -BitVec.reduceOfNat, -List.reduceReplicate]
def ownT (n : Nat) : Nat × (List AV → R) := (n, A2 fun c f : BitVec 32 => (f = 4026531840, ownR c))
theorem ctOwn_ok {Ct : List (Nat × (List AV → R))} (h : CtOK Tryz.prog Gs Ct) : CtOK Tryz.prog Gs (ownT 130 :: Ct) := CtOK_cons (Row2 fun c f h => by obtain rfl := h; exact own_fun c) h
theorem ctROwn_ok {Ct : List (Nat × (List AV → R))} (h : CtOK Tryz.prog Gs Ct) : CtOK Tryz.prog Gs (ownT 116 :: Ct) := CtOK_cons (Row2 fun c f h => by obtain rfl := h; exact rown_fun c) h
def lmsF (c : BitVec 32) : Option (Nat × Nat) :=
  if 5 ≤ c.toNat ∧ c.toNat ≤ 24 then some ((c.toNat - 5) / 5, 5 * ((c.toNat - 5) % 5 + 1))
  else match ownS c with
    | some (f, h) => if 1 ≤ h ∧ h ≤ 4 then some (f, h) else none
    | none => none
def lmsT (c : BitVec 32) : Option Lms := (lmsF c).map fun p => ⟨c, decide (2 ≤ p.1), if p.1 % 2 = 1 then 24 else 32, p.2⟩
def lms0 : Lms := ⟨0, false, 0, 0⟩
def lmsR (c : BitVec 32) : AV := match lmsT c with
  | some o => .tup [Enc.enc o, .i 0]
  | none => .tup [Enc.enc lms0, .i 60]
theorem hashedS_eq (f : Nat) (h : f < 4) : hashedS f = (decide (2 ≤ f), if f % 2 = 1 then 24 else 32) := by
  rcases (by omega : f = 0 ∨ f = 1 ∨ f = 2 ∨ f = 3) with rfl | rfl | rfl | rfl <;> rfl
theorem rbytes_eq (f : Nat) : ((f : Int) % 2 = 1) = (f % 2 = 1) := by apply propext; omega
set_option maxHeartbeats 1000000 in
theorem Lms_fun (c : BitVec 32) : Fun Tryz.prog Gs 129 [Enc.enc c] (lmsR c) := by
  refine Fun_cc [ownT 130, ctHashed] mo Tryz.func129 (by decide) cc129 rs129 Tryz.ntmps129 (by simp) ?_
  have hct := ctOwn_ok (ctHashed_ok CtOK_nil)
  by_cases h : 5 ≤ c.toNat ∧ c.toNat ≤ 24
  · have h1 : 5#32 ≤ c := by rw [BitVec.le_def]; simp; omega
    have h2 : c ≤ 24#32 := by rw [BitVec.le_def]; simp; omega
    obtain ⟨k, hk⟩ : ∃ k, k = c.toNat - 5 := ⟨_, rfl⟩
    have hk2 : k < 20 := by omega
    obtain ⟨d, hd⟩ : ∃ d, d = c - 5#32 := ⟨_, rfl⟩
    have hd' : c - (5 : BitVec 32) = d := hd.symm
    have f1 : d.toNat = k := by rw [hd, BitVec.toNat_sub]; simp; omega
    have hO : ownR c = .tup [.i 0, .i 0, .b false] := by rw [ownR, ownS, if_neg (by omega)]
    have hT : lmsT c = some ⟨c, decide (2 ≤ k / 5), if k / 5 % 2 = 1 then 24 else 32, (5 * (k % 5 + 1) : Nat)⟩ := by
      rw [lmsT, lmsF, if_pos h, ← hk]; rfl
    have hR : lmsR c = .tup [.agg [.u32 c, .b (decide (2 ≤ k / 5)), .i (if k / 5 % 2 = 1 then 24 else 32), .i (5 * (k % 5 + 1) : Nat)], .i 0] := by rw [lmsR, hT]; rfl
    rw [hR]
    have hh := hashedS_eq (k / 5) (by omega)
    have e5 : ((k : Int) / 5) = ((k / 5 : Nat) : Int) := by omega
    refine AW_run hct 1000 ?_
    simp (maxSteps := 10000000) (disch := omega) only [go_sem, c129, ownT, hO, h1, h2, hd', ← hd, f1, ctHashed, Int.tmod_eq_emod_of_nonneg, Int.tdiv_eq_ediv_of_nonneg, e5, hh, reduceIte, seval, -BitVec.isValue, -BitVec.reduceOfNat, -List.reduceReplicate]
    try simp
  · have hA : ¬ (5#32 ≤ c) ∨ ¬ (c ≤ 24#32) := by
      rw [BitVec.le_def, BitVec.le_def]; simp; omega
    cases hS : ownS c with
    | none =>
      have hO : ownR c = .tup [.i 0, .i 0, .b false] := by rw [ownR, hS]
      have hR : lmsR c = .tup [.agg [.u32 0, .b false, .i 0, .i 0], .i 60] := by rw [lmsR, lmsT, lmsF, if_neg h, hS]; rfl
      rw [hR]
      by_cases h1 : 5#32 ≤ c
      · have h2 : ¬ (c ≤ 24#32) := hA.resolve_left (fun e => e h1)
        refine AW_run hct 1000 ?_
        simp (maxSteps := 10000000) (disch := omega) only [go_sem, c129, ownT, hO, h1, h2, ctHashed, reduceIte, seval, -BitVec.isValue, -BitVec.reduceOfNat, -List.reduceReplicate]
      · refine AW_run hct 1000 ?_
        simp (maxSteps := 10000000) (disch := omega) only [go_sem, c129, ownT, hO, h1, ctHashed, reduceIte, seval, -BitVec.isValue, -BitVec.reduceOfNat, -List.reduceReplicate]
    | some p =>
      obtain ⟨f, q⟩ := p
      have hf : f < 4 := by
        unfold ownS at hS
        split at hS
        · simp only [Option.some.injEq, Prod.mk.injEq] at hS; omega
        · simp at hS
      have hO : ownR c = .tup [.i f, .i q, .b (decide (1 ≤ q ∧ q ≤ 4))] := by rw [ownR, hS]
      have hh := hashedS_eq f hf
      by_cases hq : 1 ≤ q ∧ q ≤ 4
      · have hR : lmsR c = .tup [.agg [.u32 c, .b (decide (2 ≤ f)), .i (if f % 2 = 1 then 24 else 32), .i q], .i 0] := by rw [lmsR, lmsT, lmsF, if_neg h, hS]; simp only; rw [if_pos hq]; rfl
        rw [hR]
        by_cases h1 : 5#32 ≤ c
        · have h2 : ¬ (c ≤ 24#32) := hA.resolve_left (fun e => e h1)
          refine AW_run hct 1000 ?_
          simp (maxSteps := 10000000) (disch := omega) only [go_sem, c129, ownT, hO, h1, h2, ctHashed, hq, hh, and_self, decide_true, reduceIte, seval, -BitVec.isValue, -BitVec.reduceOfNat, -List.reduceReplicate]
        · refine AW_run hct 1000 ?_
          simp (maxSteps := 10000000) (disch := omega) only [go_sem, c129, ownT, hO, h1, ctHashed, hq, hh, and_self, decide_true, reduceIte, seval, -BitVec.isValue, -BitVec.reduceOfNat, -List.reduceReplicate]
      · have hR : lmsR c = .tup [.agg [.u32 0, .b false, .i 0, .i 0], .i 60] := by rw [lmsR, lmsT, lmsF, if_neg h, hS]; simp only; rw [if_neg hq]; rfl
        rw [hR]
        by_cases h1 : 5#32 ≤ c
        · have h2 : ¬ (c ≤ 24#32) := hA.resolve_left (fun e => e h1)
          refine AW_run hct 1000 ?_
          simp (maxSteps := 10000000) (disch := omega) only [go_sem, c129, ownT, hO, h1, h2, ctHashed, hq, decide_false, reduceIte, seval, -BitVec.isValue, -BitVec.reduceOfNat, -List.reduceReplicate]
        · refine AW_run hct 1000 ?_
          simp (maxSteps := 10000000) (disch := omega) only [go_sem, c129, ownT, hO, h1, ctHashed, hq, decide_false, reduceIte, seval, -BitVec.isValue, -BitVec.reduceOfNat, -List.reduceReplicate]
set_option maxHeartbeats 1000000 in
theorem rLms_fun (c : BitVec 32) : Fun Tryz.prog Gs 114 [Enc.enc c] (lmsR c) := by
  refine Fun_cc [ownT 116, ctRbytes] mo Tryz.func114 (by decide) cc114 rs114 Tryz.ntmps114 (by simp) ?_
  have hct := ctROwn_ok (ctRbytes_ok CtOK_nil)
  by_cases h : 5 ≤ c.toNat ∧ c.toNat ≤ 24
  · have h1 : 5#32 ≤ c := by rw [BitVec.le_def]; simp; omega
    have h2 : c ≤ 24#32 := by rw [BitVec.le_def]; simp; omega
    obtain ⟨k, hk⟩ : ∃ k, k = c.toNat - 5 := ⟨_, rfl⟩
    have hk2 : k < 20 := by omega
    obtain ⟨d, hd⟩ : ∃ d, d = c - 5#32 := ⟨_, rfl⟩
    have hd' : c - (5 : BitVec 32) = d := hd.symm
    have f1 : d.toNat = k := by rw [hd, BitVec.toNat_sub]; simp; omega
    have hO : ownR c = .tup [.i 0, .i 0, .b false] := by rw [ownR, ownS, if_neg (by omega)]
    have hT : lmsT c = some ⟨c, decide (2 ≤ k / 5), if k / 5 % 2 = 1 then 24 else 32, (5 * (k % 5 + 1) : Nat)⟩ := by
      rw [lmsT, lmsF, if_pos h, ← hk]; rfl
    have hR : lmsR c = .tup [.agg [.u32 c, .b (decide (2 ≤ k / 5)), .i (if k / 5 % 2 = 1 then 24 else 32), .i (5 * (k % 5 + 1) : Nat)], .i 0] := by rw [lmsR, hT]; rfl
    rw [hR]
    have hh := rbytes_eq (k / 5)
    have e5 : ((k : Int) / 5) = ((k / 5 : Nat) : Int) := by omega
    have e6 : ((2 : Int) ≤ ((k / 5 : Nat) : Int)) = (2 ≤ k / 5) := by apply propext; omega
    refine AW_run hct 1000 ?_
    simp (maxSteps := 10000000) (disch := omega) only [go_sem, c114, ownT, hO, h1, h2, hd', ← hd, f1, ctRbytes, Int.tmod_eq_emod_of_nonneg, Int.tdiv_eq_ediv_of_nonneg, e5, e6, reduceIte, seval, -BitVec.isValue, -BitVec.reduceOfNat, -List.reduceReplicate]
    simp only [hh]
    try simp
  · have hA : ¬ (5#32 ≤ c) ∨ ¬ (c ≤ 24#32) := by
      rw [BitVec.le_def, BitVec.le_def]; simp; omega
    cases hS : ownS c with
    | none =>
      have hO : ownR c = .tup [.i 0, .i 0, .b false] := by rw [ownR, hS]
      have hR : lmsR c = .tup [.agg [.u32 0, .b false, .i 0, .i 0], .i 60] := by rw [lmsR, lmsT, lmsF, if_neg h, hS]; rfl
      rw [hR]
      by_cases h1 : 5#32 ≤ c
      · have h2 : ¬ (c ≤ 24#32) := hA.resolve_left (fun e => e h1)
        refine AW_run hct 1000 ?_
        simp (maxSteps := 10000000) (disch := omega) only [go_sem, c114, ownT, hO, h1, h2, ctRbytes, reduceIte, seval, -BitVec.isValue, -BitVec.reduceOfNat, -List.reduceReplicate]
      · refine AW_run hct 1000 ?_
        simp (maxSteps := 10000000) (disch := omega) only [go_sem, c114, ownT, hO, h1, ctRbytes, reduceIte, seval, -BitVec.isValue, -BitVec.reduceOfNat, -List.reduceReplicate]
    | some p =>
      obtain ⟨f, q⟩ := p
      have hO : ownR c = .tup [.i f, .i q, .b (decide (1 ≤ q ∧ q ≤ 4))] := by rw [ownR, hS]
      have hh := rbytes_eq f
      have e6 : ((2 : Int) ≤ (f : Int)) = (2 ≤ f) := by apply propext; omega
      by_cases hq : 1 ≤ q ∧ q ≤ 4
      · have hR : lmsR c = .tup [.agg [.u32 c, .b (decide (2 ≤ f)), .i (if f % 2 = 1 then 24 else 32), .i q], .i 0] := by rw [lmsR, lmsT, lmsF, if_neg h, hS]; simp only; rw [if_pos hq]; rfl
        rw [hR]
        by_cases h1 : 5#32 ≤ c
        · have h2 : ¬ (c ≤ 24#32) := hA.resolve_left (fun e => e h1)
          refine AW_run hct 1000 ?_
          simp (maxSteps := 10000000) (disch := omega) only [go_sem, c114, ownT, hO, h1, h2, ctRbytes, hq, e6, and_self, decide_true, reduceIte, seval, -BitVec.isValue, -BitVec.reduceOfNat, -List.reduceReplicate]
          simp only [hh]
        · refine AW_run hct 1000 ?_
          simp (maxSteps := 10000000) (disch := omega) only [go_sem, c114, ownT, hO, h1, ctRbytes, hq, e6, and_self, decide_true, reduceIte, seval, -BitVec.isValue, -BitVec.reduceOfNat, -List.reduceReplicate]
          simp only [hh]
      · have hR : lmsR c = .tup [.agg [.u32 0, .b false, .i 0, .i 0], .i 60] := by rw [lmsR, lmsT, lmsF, if_neg h, hS]; simp only; rw [if_neg hq]; rfl
        rw [hR]
        by_cases h1 : 5#32 ≤ c
        · have h2 : ¬ (c ≤ 24#32) := hA.resolve_left (fun e => e h1)
          refine AW_run hct 1000 ?_
          simp (maxSteps := 10000000) (disch := omega) only [go_sem, c114, ownT, hO, h1, h2, ctRbytes, hq, decide_false, reduceIte, seval, -BitVec.isValue, -BitVec.reduceOfNat, -List.reduceReplicate]
        · refine AW_run hct 1000 ?_
          simp (maxSteps := 10000000) (disch := omega) only [go_sem, c114, ownT, hO, h1, ctRbytes, hq, decide_false, reduceIte, seval, -BitVec.isValue, -BitVec.reduceOfNat, -List.reduceReplicate]
end Go.Lv
namespace Go.Lv
open Go Go.Proofs
set_option linter.unusedSimpArgs false
set_option maxRecDepth 100000
def ctLms (n : Nat) : Nat × (List AV → R) := (n, A1 fun c : BitVec 32 => (True, lmsR c))
theorem ctLms_ok {Ct : List (Nat × (List AV → R))} (h : CtOK Tryz.prog Gs Ct) : CtOK Tryz.prog Gs (ctLms 129 :: Ct) := CtOK_cons (Row1 fun k _ => Lms_fun k) h
theorem ctRLms_ok {Ct : List (Nat × (List AV → R))} (h : CtOK Tryz.prog Gs Ct) : CtOK Tryz.prog Gs (ctLms 114 :: Ct) := CtOK_cons (Row1 fun k _ => rLms_fun k) h
theorem isLms_fun (o : Lms) : Fun Tryz.prog Gs 233 [Enc.enc o] (.b (decide (lmsT o.code = some o))) := by
  refine Fun_cc [ctLms 129] mo Tryz.func233 (by decide) cc233 rs233 Tryz.ntmps233 (by simp) ?_
  refine AW_run (ctLms_ok CtOK_nil) 1000 ?_
  cases h : lmsT o.code with
  | none =>
    simp (maxSteps := 10000000) (disch := omega) only [go_sem, c233, ctLms, lmsR, h, lms0, reduceIte, seval, -BitVec.isValue, -BitVec.reduceOfNat, -List.reduceReplicate]
    try simp
  | some x =>
    by_cases e : x = o
    · subst e
      simp (maxSteps := 10000000) (disch := omega) only [go_sem, c233, ctLms, lmsR, h, eqL, eq1, reduceIte, seval, -BitVec.isValue, -BitVec.reduceOfNat, -List.reduceReplicate]
      try simp
    · have e2 : (x.code = o.code ∧ x.shake = o.shake ∧ x.n = o.n ∧ x.h = o.h) = False := eq_false fun ⟨a, b, c, d⟩ => e (by cases x; cases o; simp_all)
      simp (maxSteps := 10000000) (disch := omega) only [go_sem, c233, ctLms, lmsR, h, eqL, eq1, reduceIte, seval, -BitVec.isValue, -BitVec.reduceOfNat, -List.reduceReplicate]
      · have : (decide (x.code = o.code) && (decide (x.shake = o.shake) && (decide (x.n = o.n) && decide (x.h = o.h)))) = false := by
          have := e2
          simp only [← Bool.decide_and]; exact decide_eq_false (of_eq_false e2)
        rw [this]; simp [e]
theorem rMayLms_fun (o : Lms) : Fun Tryz.prog Gs 165 [Enc.enc o] (.b (decide (lmsT o.code = some o))) := by
  refine Fun_cc [ctLms 114] mo Tryz.func165 (by decide) cc165 rs165 Tryz.ntmps165 (by simp) ?_
  refine AW_run (ctRLms_ok CtOK_nil) 1000 ?_
  cases h : lmsT o.code with
  | none =>
    simp (maxSteps := 10000000) (disch := omega) only [go_sem, c165, ctLms, lmsR, h, lms0, reduceIte, seval, -BitVec.isValue, -BitVec.reduceOfNat, -List.reduceReplicate]
    try simp
  | some x =>
    by_cases e : x = o
    · subst e
      simp (maxSteps := 10000000) (disch := omega) only [go_sem, c165, ctLms, lmsR, h, eqL, eq1, reduceIte, seval, -BitVec.isValue, -BitVec.reduceOfNat, -List.reduceReplicate]
      try simp
    · have e2 : (x.code = o.code ∧ x.shake = o.shake ∧ x.n = o.n ∧ x.h = o.h) = False := eq_false fun ⟨a, b, c, d⟩ => e (by cases x; cases o; simp_all)
      simp (maxSteps := 10000000) (disch := omega) only [go_sem, c165, ctLms, lmsR, h, eqL, eq1, reduceIte, seval, -BitVec.isValue, -BitVec.reduceOfNat, -List.reduceReplicate]
      · have : (decide (x.code = o.code) && (decide (x.shake = o.shake) && (decide (x.n = o.n) && decide (x.h = o.h)))) = false := by
          have := e2
          simp only [← Bool.decide_and]; exact decide_eq_false (of_eq_false e2)
        rw [this]; simp [e]
theorem isOts_fun (o : Ots) : Fun Tryz.prog Gs 193 [Enc.enc o] (.b (decide (otsT o.code = some o))) := by
  refine Fun_cc [ctOts] mo Tryz.func193 (by decide) cc193 rs193 Tryz.ntmps193 (by simp) ?_
  refine AW_run (ctOts_ok CtOK_nil) 1000 ?_
  cases h : otsT o.code with
  | none =>
    simp (maxSteps := 10000000) (disch := omega) only [go_sem, c193, ctOts, otsR, h, ots0, reduceIte, seval, -BitVec.isValue, -BitVec.reduceOfNat, -List.reduceReplicate]
    try simp
  | some x =>
    by_cases e : x = o
    · subst e
      simp (maxSteps := 10000000) (disch := omega) only [go_sem, c193, ctOts, otsR, h, eqL, eq1, reduceIte, seval, -BitVec.isValue, -BitVec.reduceOfNat, -List.reduceReplicate]
      try simp
    · have e2 : (x.code = o.code ∧ x.shake = o.shake ∧ x.n = o.n ∧ x.w = o.w ∧ x.p = o.p ∧ x.ls = o.ls) = False := eq_false fun ⟨a, b, c, d, f, g⟩ => e (by cases x; cases o; simp_all)
      simp (maxSteps := 10000000) (disch := omega) only [go_sem, c193, ctOts, otsR, h, eqL, eq1, reduceIte, seval, -BitVec.isValue, -BitVec.reduceOfNat, -List.reduceReplicate]
      · have : (decide (x.code = o.code) && (decide (x.shake = o.shake) && (decide (x.n = o.n) && (decide (x.w = o.w) && (decide (x.p = o.p) && decide (x.ls = o.ls)))))) = false := by
          have := e2
          simp only [← Bool.decide_and]; exact decide_eq_false (of_eq_false e2)
        rw [this]; simp [e]
def ctIsLms (n : Nat) : Nat × (List AV → R) := (n, A1 fun o : Lms => (True, .b (decide (lmsT o.code = some o))))
theorem ctIsLms_ok {Ct : List (Nat × (List AV → R))} (h : CtOK Tryz.prog Gs Ct) : CtOK Tryz.prog Gs (ctIsLms 233 :: Ct) := CtOK_cons (Row1 fun k _ => isLms_fun k) h
theorem ctRMayLms_ok {Ct : List (Nat × (List AV → R))} (h : CtOK Tryz.prog Gs Ct) : CtOK Tryz.prog Gs (ctIsLms 165 :: Ct) := CtOK_cons (Row1 fun k _ => rMayLms_fun k) h
def ctIsOts : Nat × (List AV → R) := (193, A1 fun o : Ots => (True, .b (decide (otsT o.code = some o))))
theorem ctIsOts_ok {Ct : List (Nat × (List AV → R))} (h : CtOK Tryz.prog Gs Ct) : CtOK Tryz.prog Gs (ctIsOts :: Ct) := CtOK_cons (Row1 fun k _ => isOts_fun k) h
def fitP (l : Lms) (o : Ots) : Prop := lmsT l.code = some l ∧ otsT o.code = some o ∧ l.shake = o.shake ∧ l.n = o.n
instance (l : Lms) (o : Ots) : Decidable (fitP l o) := by unfold fitP; infer_instance
theorem Fit_fun (l : Lms) (o : Ots) : Fun Tryz.prog Gs 189 [Enc.enc l, Enc.enc o] (.b (decide (fitP l o))) := by
  refine Fun_cc [ctIsLms 233, ctIsOts] mo Tryz.func189 (by decide) cc189 rs189 Tryz.ntmps189 (by simp) ?_
  have hct := ctIsLms_ok (ctIsOts_ok CtOK_nil)
  by_cases h1 : lmsT l.code = some l
  · by_cases h2 : otsT o.code = some o
    · by_cases h3 : l.shake = o.shake
      · refine AW_run hct 1000 ?_
        simp (maxSteps := 10000000) (disch := omega) only [go_sem, c189, ctIsLms, ctIsOts, h1, h2, eq_true h3, decide_true, reduceIte, seval, -BitVec.isValue, -BitVec.reduceOfNat, -List.reduceReplicate]
        simp [fitP, h1, h2, h3]
      · have hf : decide (fitP l o) = false := decide_eq_false fun ⟨_, _, c, _⟩ => h3 c
        rw [hf]
        refine AW_run hct 1000 ?_
        simp (maxSteps := 10000000) (disch := omega) only [go_sem, c189, ctIsLms, ctIsOts, h1, h2, h3, decide_true, decide_false, reduceIte, seval, -BitVec.isValue, -BitVec.reduceOfNat, -List.reduceReplicate]
    · have hf : decide (fitP l o) = false := decide_eq_false fun ⟨_, b, _⟩ => h2 b
      rw [hf]
      refine AW_run hct 1000 ?_
      simp (maxSteps := 10000000) (disch := omega) only [go_sem, c189, ctIsLms, ctIsOts, h1, h2, decide_true, decide_false, reduceIte, seval, -BitVec.isValue, -BitVec.reduceOfNat, -List.reduceReplicate]
  · have hf : decide (fitP l o) = false := decide_eq_false fun ⟨a, _⟩ => h1 a
    rw [hf]
    refine AW_run hct 1000 ?_
    simp (maxSteps := 10000000) (disch := omega) only [go_sem, c189, ctIsLms, ctIsOts, h1, decide_true, decide_false, reduceIte, seval, -BitVec.isValue, -BitVec.reduceOfNat, -List.reduceReplicate]
theorem rFit_fun (l : Lms) (o : Ots) : Fun Tryz.prog Gs 164 [Enc.enc l, Enc.enc o] (.b (decide (fitP l o))) := by
  refine Fun_cc [ctIsLms 165, ctRMayOts] mo Tryz.func164 (by decide) cc164 rs164 Tryz.ntmps164 (by simp) ?_
  have hct := ctRMayLms_ok (ctRMayOts_ok CtOK_nil)
  by_cases h1 : lmsT l.code = some l
  · by_cases h2 : otsT o.code = some o
    · by_cases h3 : l.shake = o.shake
      · refine AW_run hct 1000 ?_
        simp (maxSteps := 10000000) (disch := omega) only [go_sem, c164, ctIsLms, ctRMayOts, h1, h2, eq_true h3, decide_true, reduceIte, seval, -BitVec.isValue, -BitVec.reduceOfNat, -List.reduceReplicate]
        simp [fitP, h1, h2, h3]
      · have hf : decide (fitP l o) = false := decide_eq_false fun ⟨_, _, c, _⟩ => h3 c
        rw [hf]
        refine AW_run hct 1000 ?_
        simp (maxSteps := 10000000) (disch := omega) only [go_sem, c164, ctIsLms, ctRMayOts, h1, h2, h3, decide_true, decide_false, reduceIte, seval, -BitVec.isValue, -BitVec.reduceOfNat, -List.reduceReplicate]
    · have hf : decide (fitP l o) = false := decide_eq_false fun ⟨_, b, _⟩ => h2 b
      rw [hf]
      refine AW_run hct 1000 ?_
      simp (maxSteps := 10000000) (disch := omega) only [go_sem, c164, ctIsLms, ctRMayOts, h1, h2, decide_true, decide_false, reduceIte, seval, -BitVec.isValue, -BitVec.reduceOfNat, -List.reduceReplicate]
  · have hf : decide (fitP l o) = false := decide_eq_false fun ⟨a, _⟩ => h1 a
    rw [hf]
    refine AW_run hct 1000 ?_
    simp (maxSteps := 10000000) (disch := omega) only [go_sem, c164, ctIsLms, ctRMayOts, h1, decide_true, decide_false, reduceIte, seval, -BitVec.isValue, -BitVec.reduceOfNat, -List.reduceReplicate]
def ctFit (n : Nat) : Nat × (List AV → R) := (n, A2 fun (l : Lms) (o : Ots) => (True, .b (decide (fitP l o))))
theorem ctFit_ok {Ct : List (Nat × (List AV → R))} (h : CtOK Tryz.prog Gs Ct) : CtOK Tryz.prog Gs (ctFit 189 :: Ct) := CtOK_cons (Row2 fun k o _ => Fit_fun k o) h
theorem ctRFit_ok {Ct : List (Nat × (List AV → R))} (h : CtOK Tryz.prog Gs Ct) : CtOK Tryz.prog Gs (ctFit 164 :: Ct) := CtOK_cons (Row2 fun k o _ => rFit_fun k o) h
def lmsX (c : BitVec 32) : Lms := (lmsT c).getD lms0
def otsX (c : BitVec 32) : Ots := (otsT c).getD ots0
theorem lmsR_eq (c : BitVec 32) : lmsR c = .tup [Enc.enc (lmsX c), .i (if lmsT c = none then 60 else 0)] := by
  unfold lmsR lmsX
  cases lmsT c <;> rfl
theorem otsR_eq (c : BitVec 32) : otsR c = .tup [Enc.enc (otsX c), .i (if otsT c = none then 60 else 0)] := by
  unfold otsR otsX
  cases otsT c <;> rfl
structure Level where
  a : BitVec 32
  b : BitVec 32
  deriving DecidableEq
instance : Enc Level where
  enc v := .agg [.u32 v.a, .u32 v.b]
  ret v := .agg [.u32 v.a, .u32 v.b]
  ok | .agg [.u32 _, .u32 _] => True | _ => False
  dec | .agg [.u32 a, .u32 b] => ⟨a, b⟩ | _ => ⟨0, 0⟩
  dflt := ⟨0, 0⟩
  d := 2
  sound x h := by
    split at h
    · rfl
    · exact h.elim
  fz H k x h := by obtain ⟨k, rfl⟩ := Nat.exists_eq_add_of_le' h; exact ⟨rfl, rfl, rfl, rfl⟩
  ow x := ⟨rfl, rfl⟩
  cl x := rfl
  rn m x := ⟨rfl, rfl⟩
  ik n x := by constructor <;> simp [idk, idk.idkL]
@[go_sem] theorem enc_lv (v : Level) : Enc.enc v = .agg [.u32 v.a, .u32 v.b] := rfl
@[go_sem] theorem ret_lv (v : Level) : Enc.ret v = .agg [.u32 v.a, .u32 v.b] := rfl
@[go_sem] theorem ok_lv (a b : BitVec 32) : Enc.ok Level (.agg [.u32 a, .u32 b]) = True := rfl
@[go_sem] theorem dec_lv (a b : BitVec 32) : (Enc.dec (.agg [.u32 a, .u32 b]) : Level) = ⟨a, b⟩ := rfl
def vfit (v : Level) : Prop := fitP (lmsX v.a) (otsX v.b)
instance (v : Level) : Decidable (vfit v) := by unfold vfit; infer_instance
theorem lms0_none : lmsT lms0.code = none := by decide +kernel
theorem ots0_none : otsT ots0.code = none := by decide +kernel
theorem vfit_some (v : Level) (h : vfit v) : lmsT v.a ≠ none ∧ otsT v.b ≠ none := by
  obtain ⟨h1, h2, _⟩ := h
  constructor
  · intro e; rw [lmsX, e, Option.getD_none, lms0_none] at h1; simp at h1
  · intro e; rw [otsX, e, Option.getD_none, ots0_none] at h2; simp at h2
theorem sets_fun (v : Level) : Fun Tryz.prog Gs 128 [Enc.enc v] (.tup [Enc.enc (lmsX v.a), Enc.enc (otsX v.b), .b (decide (vfit v))]) := by
  refine Fun_cc [ctLms 129, ctOts, ctFit 189] mo Tryz.func128 (by decide) cc128 rs128 Tryz.ntmps128 (by simp) ?_
  have hct := ctLms_ok (ctOts_ok (ctFit_ok CtOK_nil))
  by_cases h1 : lmsT v.a = none
  · have hf : decide (vfit v) = false := decide_eq_false fun h => (vfit_some v h).1 h1
    rw [hf]
    refine AW_run hct 22 ?_
    simp (maxSteps := 10000000) (disch := omega) only [go_sem, c128, ctLms, ctOts, ctFit, lmsR_eq, otsR_eq, h1, reduceIte, seval, -BitVec.isValue, -BitVec.reduceOfNat, -List.reduceReplicate]
    refine AW_ct [ctLms 129, ctOts, ctFit 189] (AW_drr hct 1000 [(3, ⟨[.u32 (lmsX v.a).code, .b (lmsX v.a).shake, .i (lmsX v.a).n, .i (lmsX v.a).h], true⟩), (4, ⟨[.u32 (otsX v.b).code, .b (otsX v.b).shake, .i (otsX v.b).n, .i (otsX v.b).w, .i (otsX v.b).p, .i (otsX v.b).ls], true⟩)] rfl (by simp only [go_sem, reduceIte, seval, -BitVec.isValue, -BitVec.reduceOfNat, -List.reduceReplicate]) ?_)
    simp (maxSteps := 10000000) (disch := omega) only [go_sem, ctLms, ctOts, ctFit, lmsR_eq, otsR_eq, h1, reduceIte, seval, -BitVec.isValue, -BitVec.reduceOfNat, -List.reduceReplicate]
  · by_cases h2 : otsT v.b = none
    · have hf : decide (vfit v) = false := decide_eq_false fun h => (vfit_some v h).2 h2
      rw [hf]
      refine AW_run hct 22 ?_
      simp (maxSteps := 10000000) (disch := omega) only [go_sem, c128, ctLms, ctOts, ctFit, lmsR_eq, otsR_eq, h1, h2, reduceIte, seval, -BitVec.isValue, -BitVec.reduceOfNat, -List.reduceReplicate]
      refine AW_ct [ctLms 129, ctOts, ctFit 189] (AW_drr hct 1000 [(3, ⟨[.u32 (lmsX v.a).code, .b (lmsX v.a).shake, .i (lmsX v.a).n, .i (lmsX v.a).h], true⟩), (4, ⟨[.u32 (otsX v.b).code, .b (otsX v.b).shake, .i (otsX v.b).n, .i (otsX v.b).w, .i (otsX v.b).p, .i (otsX v.b).ls], true⟩)] rfl (by simp only [go_sem, reduceIte, seval, -BitVec.isValue, -BitVec.reduceOfNat, -List.reduceReplicate]) ?_)
      simp (maxSteps := 10000000) (disch := omega) only [go_sem, ctLms, ctOts, ctFit, lmsR_eq, otsR_eq, h1, h2, reduceIte, seval, -BitVec.isValue, -BitVec.reduceOfNat, -List.reduceReplicate]
    · refine AW_run hct 22 ?_
      simp (maxSteps := 10000000) (disch := omega) only [go_sem, c128, ctLms, ctOts, ctFit, lmsR_eq, otsR_eq, h1, h2, reduceIte, seval, -BitVec.isValue, -BitVec.reduceOfNat, -List.reduceReplicate]
      refine AW_ct [ctLms 129, ctOts, ctFit 189] (AW_drr hct 1000 [(3, ⟨[.u32 (lmsX v.a).code, .b (lmsX v.a).shake, .i (lmsX v.a).n, .i (lmsX v.a).h], true⟩), (4, ⟨[.u32 (otsX v.b).code, .b (otsX v.b).shake, .i (otsX v.b).n, .i (otsX v.b).w, .i (otsX v.b).p, .i (otsX v.b).ls], true⟩)] rfl (by simp only [go_sem, reduceIte, seval, -BitVec.isValue, -BitVec.reduceOfNat, -List.reduceReplicate]) ?_)
      simp (maxSteps := 10000000) (disch := omega) only [go_sem, ctLms, ctOts, ctFit, lmsR_eq, otsR_eq, h1, h2, reduceIte, seval, -BitVec.isValue, -BitVec.reduceOfNat, -List.reduceReplicate]
      rfl
theorem rSets_fun (v : Level) : Fun Tryz.prog Gs 83 [Enc.enc v] (.tup [Enc.enc (lmsX v.a), Enc.enc (otsX v.b)]) := by
  refine Fun_cc [ctLms 114, ctROts] mo Tryz.func83 (by decide) cc83 rs83 Tryz.ntmps83 (by simp) ?_
  have hct := ctRLms_ok (ctROts_ok CtOK_nil)
  refine AW_run hct 21 ?_
  simp (maxSteps := 10000000) (disch := omega) only [go_sem, c83, ctLms, ctROts, lmsR_eq, otsR_eq, reduceIte, seval, -BitVec.isValue, -BitVec.reduceOfNat, -List.reduceReplicate]
  refine AW_ct [ctLms 114, ctROts] (AW_drr hct 1000 [(3, ⟨[.u32 (lmsX v.a).code, .b (lmsX v.a).shake, .i (lmsX v.a).n, .i (lmsX v.a).h], true⟩), (4, ⟨[.u32 (otsX v.b).code, .b (otsX v.b).shake, .i (otsX v.b).n, .i (otsX v.b).w, .i (otsX v.b).p, .i (otsX v.b).ls], true⟩)] rfl (by simp only [go_sem, reduceIte, seval, -BitVec.isValue, -BitVec.reduceOfNat, -List.reduceReplicate]) ?_)
  simp (maxSteps := 10000000) (disch := omega) only [go_sem, ctLms, ctROts, lmsR_eq, otsR_eq, reduceIte, seval, -BitVec.isValue, -BitVec.reduceOfNat, -List.reduceReplicate]
def ctSets : Nat × (List AV → R) := (128, A1 fun v : Level => (True, .tup [Enc.enc (lmsX v.a), Enc.enc (otsX v.b), .b (decide (vfit v))]))
theorem ctSets_ok {Ct : List (Nat × (List AV → R))} (h : CtOK Tryz.prog Gs Ct) : CtOK Tryz.prog Gs (ctSets :: Ct) := CtOK_cons (Row1 fun k _ => sets_fun k) h
def ctRSets : Nat × (List AV → R) := (83, A1 fun v : Level => (True, .tup [Enc.enc (lmsX v.a), Enc.enc (otsX v.b)]))
theorem ctRSets_ok {Ct : List (Nat × (List AV → R))} (h : CtOK Tryz.prog Gs Ct) : CtOK Tryz.prog Gs (ctRSets :: Ct) := CtOK_cons (Row1 fun k _ => rSets_fun k) h
theorem rFits_fun (v : Level) : Fun Tryz.prog Gs 133 [Enc.enc v] (.b (decide (vfit v))) := by
  refine Fun_cc [ctRSets, ctFit 164] mo Tryz.func133 (by decide) cc133 rs133 Tryz.ntmps133 (by simp) ?_
  have hct := ctRSets_ok (ctRFit_ok CtOK_nil)
  refine AW_run hct 1000 ?_
  simp (maxSteps := 10000000) (disch := omega) only [go_sem, c133, ctRSets, ctFit, reduceIte, seval, -BitVec.isValue, -BitVec.reduceOfNat, -List.reduceReplicate]
  rfl
def ctRFits : Nat × (List AV → R) := (133, A1 fun v : Level => (True, .b (decide (vfit v))))
theorem ctRFits_ok {Ct : List (Nat × (List AV → R))} (h : CtOK Tryz.prog Gs Ct) : CtOK Tryz.prog Gs (ctRFits :: Ct) := CtOK_cons (Row1 fun k _ => rFits_fun k) h
end Go.Lv
namespace Go.Lv
open Go Go.Proofs
set_option linter.unusedSimpArgs false
set_option maxRecDepth 100000
@[go_sem] theorem ots_eta (o : Ots) : (⟨o.code, o.shake, o.n, o.w, o.p, o.ls⟩ : Ots) = o := rfl
@[go_sem] theorem lms_eta (o : Lms) : (⟨o.code, o.shake, o.n, o.h⟩ : Lms) = o := rfl
@[go_sem] theorem lv_eta (o : Level) : (⟨o.a, o.b⟩ : Level) = o := rfl
def lvc (ls : List Level) : List AV := ls.flatMap fun v => [.u32 v.a, .u32 v.b]
theorem lvc_cons (v : Level) (ls : List Level) : lvc (v :: ls) = .u32 v.a :: .u32 v.b :: lvc ls := rfl
@[go_sem] theorem lvc_len (ls : List Level) : (lvc ls).length = ls.length * 2 := by
  induction ls with
  | nil => rfl
  | cons t ts ih => rw [lvc_cons, List.length_cons, List.length_cons, ih, List.length_cons]; omega
theorem lvc_at (ls : List Level) (i : Nat) (h : i < ls.length) : ((lvc ls).drop (i * 2)).take 2 = [.u32 (ls.getD i ⟨0, 0⟩).a, .u32 (ls.getD i ⟨0, 0⟩).b] := by
  induction i generalizing ls with
  | zero => cases ls with
    | nil => simp at h
    | cons v ls => simp [lvc_cons]
  | succ i ih => cases ls with
    | nil => simp at h
    | cons v ls =>
      have := ih ls (by simpa using h)
      rw [lvc_cons, show (i + 1) * 2 = i * 2 + 1 + 1 by omega, List.drop_succ_cons, List.drop_succ_cons, this]; simp
@[go_sem] theorem lvc_ren (m : List (Nat × Nat)) (ts : List Level) : ren.renL m (lvc ts) = lvc ts := by
  induction ts with
  | nil => rfl
  | cons t ts ih => rw [lvc_cons]; simp only [ren.renL, ren, ih]
@[go_sem] theorem lvc_idk (n : Nat) (ts : List Level) : idk.idkL n (lvc ts) = True := by
  induction ts with
  | nil => simp [lvc, idk.idkL]
  | cons t ts ih => rw [lvc_cons]; simp only [idk.idkL, idk, ih, and_self]
theorem lvc_fz (H : List (Nat × Seg)) (k : Nat) (fl : Bool) (ls : List Level) : (lvc ls).map (frz H (k + 1) fl) = lvc ls := by
  induction ls with
  | nil => rfl
  | cons t ts ih => rw [lvc_cons, List.map_cons, List.map_cons, ih]; rfl
theorem lvc_own (ls : List Level) : own.ownL (lvc ls) = false := by
  induction ls with
  | nil => rfl
  | cons t ts ih => rw [lvc_cons]; simp [own.ownL, own, ih]
theorem lvc_cln (ls : List Level) : cln.clnL (lvc ls) = true := by
  induction ls with
  | nil => rfl
  | cons t ts ih => rw [lvc_cons]; simp [cln.clnL, cln, ih]
structure Lvs where
  l : List Level
def okV : List AV → Prop
  | [] => True
  | .u32 _ :: .u32 _ :: r => okV r
  | _ => False
def deV : List AV → List Level
  | .u32 a :: .u32 b :: r => ⟨a, b⟩ :: deV r
  | _ => []
@[go_sem] theorem okV_nil : okV [] = True := rfl
@[go_sem] theorem okV_cons (a b : BitVec 32) (r : List AV) : okV (.u32 a :: .u32 b :: r) = okV r := rfl
@[go_sem] theorem deV_nil : deV [] = [] := rfl
@[go_sem] theorem deV_cons (a b : BitVec 32) (r : List AV) : deV (.u32 a :: .u32 b :: r) = ⟨a, b⟩ :: deV r := rfl
@[go_sem] theorem okV_lvc (ls : List Level) : okV (lvc ls) = True := by
  induction ls with
  | nil => rfl
  | cons t ts ih => rw [lvc_cons, okV_cons, ih]
@[go_sem] theorem deV_lvc (ls : List Level) : deV (lvc ls) = ls := by
  induction ls with
  | nil => rfl
  | cons t ts ih => rw [lvc_cons, deV_cons, ih]
theorem okV_eq : ∀ (n : Nat) (cs : List AV), cs.length ≤ n → okV cs → cs = lvc (deV cs)
  | n, [], _, _ => rfl
  | 0, _ :: _, h, _ => by simp at h
  | n + 1, cs, hn, h => by
    unfold okV at h
    split at h
    · rfl
    · rename_i a b r
      rw [deV_cons, lvc_cons, ← okV_eq n r (by simp at hn; omega) h]
    · exact h.elim
instance : Enc Lvs where
  enc x := .ros false x.l.length (lvc x.l)
  ret x := .ros true x.l.length (lvc x.l)
  ok | .ros fr n cs => fr = false ∧ cs.length = n * 2 ∧ okV cs | _ => False
  dec | .ros _ _ cs => ⟨deV cs⟩ | _ => ⟨[]⟩
  dflt := ⟨[]⟩
  d := 2
  sound x h := by
    cases x <;> first | exact h.elim | skip
    obtain ⟨rfl, h1, h⟩ := h
    have := okV_eq _ _ (Nat.le_refl _) h
    simp only
    rw [← this]
    rw [this, lvc_len] at h1
    congr 1
    omega
  fz H k x h := by
    obtain ⟨j, rfl⟩ := Nat.exists_eq_add_of_le' h
    have := lvc_fz H j
    simp only [frz, this, Bool.and_false, Bool.and_true, and_self]
  ow x := by simp only [own, lvc_own, and_self]
  cl x := by simp only [cln, lvc_cln, Bool.and_true]
  rn m x := by simp only [ren, lvc_ren, and_self]
  ik n x := by simp only [idk, lvc_idk, and_self]
@[go_sem] theorem enc_lvs (v : Lvs) : Enc.enc v = .ros false v.l.length (lvc v.l) := rfl
@[go_sem] theorem ok_lvs (n : Nat) (cs : List AV) : Enc.ok Lvs (.ros false n cs) = (cs.length = n * 2 ∧ okV cs) := by
  show (false = false ∧ _) = _
  simp
@[go_sem] theorem dec_lvs (n : Nat) (cs : List AV) : (Enc.dec (.ros false n cs) : Lvs) = ⟨deV cs⟩ := rfl
attribute [go_sem] lvc_own lvc_cln
theorem lmsX_ok (a : BitVec 32) : 0 ≤ (lmsX a).h ∧ (lmsX a).h ≤ 25 ∧ 0 ≤ (lmsX a).n ∧ (lmsX a).n ≤ 32 := by
  unfold lmsX lmsT
  cases h : lmsF a with
  | none => simp only [Option.map_none, Option.getD_none]; decide
  | some p =>
    have hp : p.2 ≤ 25 := by
      unfold lmsF at h
      split at h
      · simp only [Option.some.injEq] at h; subst h; simp only; omega
      · split at h
        · split at h
          · simp only [Option.some.injEq] at h; subst h; simp only; omega
          · simp at h
        · simp at h
    simp only [Option.map_some, Option.getD_some]
    refine ⟨by omega, by omega, ?_, ?_⟩ <;> split <;> omega
def lmsSm (l : Lms) : Prop := 0 ≤ l.h ∧ l.h ≤ 25 ∧ 0 ≤ l.n ∧ l.n ≤ 32
end Go.Lv
