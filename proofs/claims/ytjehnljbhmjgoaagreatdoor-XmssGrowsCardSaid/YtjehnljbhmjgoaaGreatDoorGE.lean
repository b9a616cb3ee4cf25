/- A part of the proof (GE). -/
import Derived.Test.YtjehnljbhmjgoaaGreatDoorGY
import Derived.Test.YtjehnljbhmjgoaaGreatDoorFE
import Derived.Test.YtjehnljbhmjgoaaGreatDoorGK
set_option linter.all false
namespace Go.Lv
open Go Go.Proofs
set_option linter.unusedSimpArgs false
set_option maxRecDepth 100000
def Xms.av (o : Xms) : AV := .agg [.u32 o.code, .b o.shake, .i o.n, .i o.h, .i o.len]
def Xms.of : AV → Xms
  | .agg [.u32 c, .b s, .i n, .i h, .i l] => ⟨c, s, n, h, l⟩
  | _ => ⟨0, false, 0, 0, 0⟩
def Xms.is : AV → Prop
  | .agg [.u32 _, .b _, .i _, .i _, .i _] => True
  | _ => False
instance : Enc Xms where
  enc := Xms.av
  ret := Xms.av
  ok := Xms.is
  dec := Xms.of
  dflt := ⟨0, false, 0, 0, 0⟩
  d := 2
  sound x h := by
    unfold Xms.is at h
    split at h
    · rfl
    · exact h.elim
  fz H k x h := by obtain ⟨k, rfl⟩ := Nat.exists_eq_add_of_le' h; exact ⟨rfl, rfl, rfl, rfl⟩
  ow x := ⟨rfl, rfl⟩
  cl x := rfl
  rn m x := ⟨rfl, rfl⟩
  ik n x := by constructor <;> simp [Xms.av, idk, idk.idkL]
@[go_sem] theorem enc_xms (o : Xms) : Enc.enc o = .agg [.u32 o.code, .b o.shake, .i o.n, .i o.h, .i o.len] := rfl
@[go_sem] theorem ret_xms (o : Xms) : Enc.ret o = .agg [.u32 o.code, .b o.shake, .i o.n, .i o.h, .i o.len] := rfl
@[go_sem] theorem ok_xms (c : BitVec 32) (s : Bool) (n h l : Int) : Enc.ok Xms (.agg [.u32 c, .b s, .i n, .i h, .i l]) = True := rfl
@[go_sem] theorem dec_xms (c : BitVec 32) (s : Bool) (n h l : Int) : (Enc.dec (.agg [.u32 c, .b s, .i n, .i h, .i l]) : Xms) = ⟨c, s, n, h, l⟩ := rfl
def ownxS (c : BitVec 32) : Option (Nat × Nat) :=
  if 4043309056 ≤ c.toNat ∧ c.toNat < 4043309120 then some ((c.toNat - 4043309056) / 16, (c.toNat - 4043309056) % 16) else none
def ownxR (c : BitVec 32) : AV := match ownxS c with
  | some (f, h) => .tup [.i f, .i h, .b (decide (1 ≤ h ∧ h ≤ 4))]
  | none => .tup [.i 0, .i 0, .b false]
theorem ownx_fun (c : BitVec 32) : Fun Tryz.prog Gs 186 [Enc.enc c, Enc.enc (4043309056 : BitVec 32)] (ownxR c) := by
  refine Fun_cc [] mo Tryz.func186 (by decide) cc186 rs186 Tryz.ntmps186 (by simp) ?_
  by_cases h : 4043309056 ≤ c.toNat ∧ c.toNat < 4043309120
  · have h1 : ¬ (c < 4043309056#32) := by rw [BitVec.lt_def]; simp; omega
    have h2 : ¬ (4043309120#32 ≤ c) := by rw [BitVec.le_def]; simp; omega
    obtain ⟨k, hk⟩ : ∃ k, k = c.toNat - 4043309056 := ⟨_, rfl⟩
    obtain ⟨d, hd⟩ : ∃ d, d = c - 4043309056#32 := ⟨_, rfl⟩
    have hd' : c - (4043309056 : BitVec 32) = d := hd.symm
    have f1 : d.toNat = k := by rw [hd, BitVec.toNat_sub]; simp; omega
    have hR : ownxR c = .tup [.i (k / 16 : Nat), .i (k % 16 : Nat), .b (decide (1 ≤ k % 16 ∧ k % 16 ≤ 4))] := by rw [ownxR, ownxS, if_pos h, ← hk]
    rw [hR]
    have hk2 : k < 64 := by omega
    by_cases h3 : (1 : Int) ≤ (k : Int) % 16
    · have h5 : 1 ≤ k % 16 := by omega
      refine AW_run CtOK_nil 1000 ?_
      simp (maxSteps := 10000000) (disch := omega) only [go_sem, c186, h1, h2, h3, hd', ← hd, f1, Int.tmod_eq_emod_of_nonneg, Int.tdiv_eq_ediv_of_nonneg, reduceIte, seval, -BitVec.isValue, -BitVec.reduceOfNat, -List.reduceReplicate]
      have e3 : ((k : Int) % 16 ≤ 4) = (k % 16 ≤ 4) := by apply propext; omega
      simp [h5, e3]
    · have h5 : ¬ 1 ≤ k % 16 := by omega
      refine AW_run CtOK_nil 1000 ?_
      simp (maxSteps := 10000000) (disch := omega) only [go_sem, c186, h1, h2, h3, hd', ← hd, f1, Int.tmod_eq_emod_of_nonneg, Int.tdiv_eq_ediv_of_nonneg, reduceIte, seval, -BitVec.isValue, -BitVec.reduceOfNat, -List.reduceReplicate]
      simp [h5]
  · have hR : ownxR c = .tup [.i 0, .i 0, .b false] := by rw [ownxR, ownxS, if_neg h]
    rw [hR]
    by_cases h1 : c < 4043309056#32
    · refine AW_run CtOK_nil 1000 ?_
      simp (maxSteps := 10000000) (disch := omega) only [go_sem, c186, h1, reduceIte, seval, -BitVec.isValue, -BitVec.reduceOfNat, -List.reduceReplicate]
    · have h2 : 4043309120#32 ≤ c := by
        rw [BitVec.lt_def] at h1
        rw [BitVec.le_def]; simp at h1 ⊢; omega
      refine AW_run CtOK_nil 1000 ?_
      simp (maxSteps := 10000000) (disch := omega) only [go_sem, c186, h1, h2, reduceIte, seval, -BitVec.isValue, -BitVec.reduceOfNat, -List.reduceReplicate]
theorem rownx_fun (c : BitVec 32) : Fun Tryz.prog Gs 141 [Enc.enc c, Enc.enc (4043309056 : BitVec 32)] (ownxR c) := by
  refine Fun_cc [] mo Tryz.func141 (by decide) cc141 rs141 Tryz.ntmps141 (by simp) ?_
  by_cases h : 4043309056 ≤ c.toNat ∧ c.toNat < 4043309120
  · have h1 : ¬ (c < 4043309056#32) := by rw [BitVec.lt_def]; simp; omega
    have h2 : ¬ (4043309119#32 < c) := by rw [BitVec.lt_def]; simp; omega
    obtain ⟨k, hk⟩ : ∃ k, k = c.toNat - 4043309056 := ⟨_, rfl⟩
    obtain ⟨d, hd⟩ : ∃ d, d = c - 4043309056#32 := ⟨_, rfl⟩
    have hd' : c - (4043309056 : BitVec 32) = d := hd.symm
    have f1 : d.toNat = k := by rw [hd, BitVec.toNat_sub]; simp; omega
    have hR : ownxR c = .tup [.i (k / 16 : Nat), .i (k % 16 : Nat), .b (decide (1 ≤ k % 16 ∧ k % 16 ≤ 4))] := by rw [ownxR, ownxS, if_pos h, ← hk]
    rw [hR]
    have hk2 : k < 64 := by omega
    by_cases h3 : (1 : Int) ≤ (k : Int) % 16
    · have h5 : 1 ≤ k % 16 := by omega
      refine AW_run CtOK_nil 1000 ?_
      simp (maxSteps := 10000000) (disch := omega) only [go_sem, c141, h1, h2, h3, hd', ← hd, f1, Int.tmod_eq_emod_of_nonneg, Int.tdiv_eq_ediv_of_nonneg, reduceIte, seval, -BitVec.isValue, -BitVec.reduceOfNat, -List.reduceReplicate]
      have e3 : ((k : Int) % 16 ≤ 4) = (k % 16 ≤ 4) := by apply propext; omega
      simp [h5, e3]
    · have h5 : ¬ 1 ≤ k % 16 := by omega
      refine AW_run CtOK_nil 1000 ?_
      simp (maxSteps := 10000000) (disch := omega) only [go_sem, c141, h1, h2, h3, hd', ← hd, f1, Int.tmod_eq_emod_of_nonneg, Int.tdiv_eq_ediv_of_nonneg, reduceIte, seval, -BitVec.isValue, -BitVec.reduceOfNat, -List.reduceReplicate]
      simp [h5]
  · have hR : ownxR c = .tup [.i 0, .i 0, .b false] := by rw [ownxR, ownxS, if_neg h]
    rw [hR]
    by_cases h1 : c < 4043309056#32
    · refine AW_run CtOK_nil 1000 ?_
      simp (maxSteps := 10000000) (disch := omega) only [go_sem, c141, h1, reduceIte, seval, -BitVec.isValue, -BitVec.reduceOfNat, -List.reduceReplicate]
    · have h2 : 4043309119#32 < c := by
        rw [BitVec.lt_def] at h1
        rw [BitVec.lt_def]; simp at h1 ⊢; omega
      refine AW_run CtOK_nil 1000 ?_
      simp (maxSteps := 10000000) (disch := omega) only [go_sem, c141, h1, h2, reduceIte, seval, -BitVec.isValue, -BitVec.reduceOfNat, -List.reduceReplicate]
def ownxT (n : Nat) : Nat × (List AV → R) := (n, A2 fun c f : BitVec 32 => (f = 4043309056, ownxR c))
theorem ctOwnx_ok {Ct : List (Nat × (List AV → R))} (h : CtOK Tryz.prog Gs Ct) : CtOK Tryz.prog Gs (ownxT 186 :: Ct) := CtOK_cons (Row2 fun c f h => by obtain rfl := h; exact ownx_fun c) h
theorem ctROwnx_ok {Ct : List (Nat × (List AV → R))} (h : CtOK Tryz.prog Gs Ct) : CtOK Tryz.prog Gs (ownxT 141 :: Ct) := CtOK_cons (Row2 fun c f h => by obtain rfl := h; exact rownx_fun c) h
def hx (k : Nat) : Nat := if k = 0 then 10 else if k = 1 then 16 else 20
def xmsF (c : BitVec 32) : Option (Nat × Nat) :=
  if 1 ≤ c.toNat ∧ c.toNat ≤ 3 then some (0, hx (c.toNat - 1))
  else if 13 ≤ c.toNat ∧ c.toNat ≤ 21 then some (1 + (c.toNat - 13) / 3, hx ((c.toNat - 13) % 3))
  else match ownxS c with
    | some (f, h) => if 1 ≤ h ∧ h ≤ 4 then some (f, h) else none
    | none => none
def xmsT (c : BitVec 32) : Option Xms := (xmsF c).map fun p => ⟨c, decide (2 ≤ p.1), if p.1 % 2 = 1 then 24 else 32, p.2, if p.1 % 2 = 1 then 51 else 67⟩
def xms0 : Xms := ⟨0, false, 0, 0, 0⟩
def xmsR (c : BitVec 32) : AV := match xmsT c with
  | some o => .tup [Enc.enc o, .i 0]
  | none => .tup [Enc.enc xms0, .i 60]
theorem height_fun (k : Nat) : Fun Tryz.prog Gs 210 [Enc.enc (k : Int)] (.i (hx k)) := by
  refine Fun_cc [] mo Tryz.func210 (by decide) cc210 rs210 Tryz.ntmps210 (by simp) ?_
  by_cases h0 : k = 0
  · subst h0
    refine AW_run CtOK_nil 1000 ?_
    simp (maxSteps := 10000000) (disch := omega) only [go_sem, c210, hx, reduceIte, seval, -BitVec.isValue, -BitVec.reduceOfNat, -List.reduceReplicate]
  · by_cases h1 : k = 1
    · subst h1
      refine AW_run CtOK_nil 1000 ?_
      simp (maxSteps := 10000000) (disch := omega) only [go_sem, c210, hx, reduceIte, seval, -BitVec.isValue, -BitVec.reduceOfNat, -List.reduceReplicate]
      try simp
    · have e0 : ¬ ((k : Int) = 0) := by omega
      have e1 : ¬ ((k : Int) = 1) := by omega
      refine AW_run CtOK_nil 1000 ?_
      simp (maxSteps := 10000000) (disch := omega) only [go_sem, c210, hx, h0, h1, e0, e1, reduceIte, seval, -BitVec.isValue, -BitVec.reduceOfNat, -List.reduceReplicate]
      try simp
theorem hsh0 : hashedS 0 = (false, 32) := rfl
theorem hsh1 : hashedS 1 = (false, 24) := rfl
theorem hsh2 : hashedS 2 = (true, 32) := rfl
theorem hsh3 : hashedS 3 = (true, 24) := rfl
def ctHeight : Nat × (List AV → R) := (210, A1 fun k : Int => (0 ≤ k, .i (hx k.toNat)))
theorem ctHeight_ok {Ct : List (Nat × (List AV → R))} (h : CtOK Tryz.prog Gs Ct) : CtOK Tryz.prog Gs (ctHeight :: Ct) := CtOK_cons (Row1 fun k h => by
  obtain ⟨k, rfl⟩ := Int.eq_ofNat_of_zero_le h
  exact height_fun k) h
theorem Xmss_1 : Fun Tryz.prog Gs 190 [Enc.enc (1 : BitVec 32)] (.tup [.agg [.u32 1, .b false, .i 32, .i 10, .i 67], .i 0]) := by
  refine Fun_cc [ownxT 186, ctHashed, ctHeight] mo Tryz.func190 (by decide) cc190 rs190 Tryz.ntmps190 (by simp) ?_
  have hct := ctOwnx_ok (ctHashed_ok (ctHeight_ok CtOK_nil))
  have hO : ownxR (1 : BitVec 32) = .tup [.i 0, .i 0, .b false] := rfl
  have hO' : ownxR 1#32 = .tup [.i 0, .i 0, .b false] := rfl
  have hx0 : hx 0 = 10 := rfl
  have hx1 : hx 1 = 16 := rfl
  have hx2 : hx 2 = 20 := rfl
  have hb : hashedS 0 = (false, 32) := rfl
  refine AW_run hct 1000 ?_
  simp (maxSteps := 10000000) (disch := omega) only [go_sem, c190, ownxT, ctHashed, ctHeight, hO, hO', hx0, hx1, hx2, hb, reduceIte, seval, -BitVec.isValue, -BitVec.reduceOfNat, -List.reduceReplicate]
  try simp
theorem Xmss_2 : Fun Tryz.prog Gs 190 [Enc.enc (2 : BitVec 32)] (.tup [.agg [.u32 2, .b false, .i 32, .i 16, .i 67], .i 0]) := by
  refine Fun_cc [ownxT 186, ctHashed, ctHeight] mo Tryz.func190 (by decide) cc190 rs190 Tryz.ntmps190 (by simp) ?_
  have hct := ctOwnx_ok (ctHashed_ok (ctHeight_ok CtOK_nil))
  have hO : ownxR (2 : BitVec 32) = .tup [.i 0, .i 0, .b false] := rfl
  have hO' : ownxR 2#32 = .tup [.i 0, .i 0, .b false] := rfl
  have hx0 : hx 0 = 10 := rfl
  have hx1 : hx 1 = 16 := rfl
  have hx2 : hx 2 = 20 := rfl
  have hb : hashedS 0 = (false, 32) := rfl
  refine AW_run hct 1000 ?_
  simp (maxSteps := 10000000) (disch := omega) only [go_sem, c190, ownxT, ctHashed, ctHeight, hO, hO', hx0, hx1, hx2, hb, reduceIte, seval, -BitVec.isValue, -BitVec.reduceOfNat, -List.reduceReplicate]
  try simp
theorem Xmss_3 : Fun Tryz.prog Gs 190 [Enc.enc (3 : BitVec 32)] (.tup [.agg [.u32 3, .b false, .i 32, .i 20, .i 67], .i 0]) := by
  refine Fun_cc [ownxT 186, ctHashed, ctHeight] mo Tryz.func190 (by decide) cc190 rs190 Tryz.ntmps190 (by simp) ?_
  have hct := ctOwnx_ok (ctHashed_ok (ctHeight_ok CtOK_nil))
  have hO : ownxR (3 : BitVec 32) = .tup [.i 0, .i 0, .b false] := rfl
  have hO' : ownxR 3#32 = .tup [.i 0, .i 0, .b false] := rfl
  have hx0 : hx 0 = 10 := rfl
  have hx1 : hx 1 = 16 := rfl
  have hx2 : hx 2 = 20 := rfl
  have hb : hashedS 0 = (false, 32) := rfl
  refine AW_run hct 1000 ?_
  simp (maxSteps := 10000000) (disch := omega) only [go_sem, c190, ownxT, ctHashed, ctHeight, hO, hO', hx0, hx1, hx2, hb, reduceIte, seval, -BitVec.isValue, -BitVec.reduceOfNat, -List.reduceReplicate]
  try simp
theorem Xmss_13 : Fun Tryz.prog Gs 190 [Enc.enc (13 : BitVec 32)] (.tup [.agg [.u32 13, .b false, .i 24, .i 10, .i 51], .i 0]) := by
  refine Fun_cc [ownxT 186, ctHashed, ctHeight] mo Tryz.func190 (by decide) cc190 rs190 Tryz.ntmps190 (by simp) ?_
  have hct := ctOwnx_ok (ctHashed_ok (ctHeight_ok CtOK_nil))
  have hO : ownxR (13 : BitVec 32) = .tup [.i 0, .i 0, .b false] := rfl
  have hO' : ownxR 13#32 = .tup [.i 0, .i 0, .b false] := rfl
  have hx0 : hx 0 = 10 := rfl
  have hx1 : hx 1 = 16 := rfl
  have hx2 : hx 2 = 20 := rfl
  have hb : hashedS 1 = (false, 24) := rfl
  refine AW_run hct 1000 ?_
  simp (maxSteps := 10000000) (disch := omega) only [go_sem, c190, ownxT, ctHashed, ctHeight, hO, hO', hx0, hx1, hx2, hb, reduceIte, seval, -BitVec.isValue, -BitVec.reduceOfNat, -List.reduceReplicate]
  try simp
theorem Xmss_14 : Fun Tryz.prog Gs 190 [Enc.enc (14 : BitVec 32)] (.tup [.agg [.u32 14, .b false, .i 24, .i 16, .i 51], .i 0]) := by
  refine Fun_cc [ownxT 186, ctHashed, ctHeight] mo Tryz.func190 (by decide) cc190 rs190 Tryz.ntmps190 (by simp) ?_
  have hct := ctOwnx_ok (ctHashed_ok (ctHeight_ok CtOK_nil))
  have hO : ownxR (14 : BitVec 32) = .tup [.i 0, .i 0, .b false] := rfl
  have hO' : ownxR 14#32 = .tup [.i 0, .i 0, .b false] := rfl
  have hx0 : hx 0 = 10 := rfl
  have hx1 : hx 1 = 16 := rfl
  have hx2 : hx 2 = 20 := rfl
  have hb : hashedS 1 = (false, 24) := rfl
  refine AW_run hct 1000 ?_
  simp (maxSteps := 10000000) (disch := omega) only [go_sem, c190, ownxT, ctHashed, ctHeight, hO, hO', hx0, hx1, hx2, hb, reduceIte, seval, -BitVec.isValue, -BitVec.reduceOfNat, -List.reduceReplicate]
  try simp
theorem Xmss_15 : Fun Tryz.prog Gs 190 [Enc.enc (15 : BitVec 32)] (.tup [.agg [.u32 15, .b false, .i 24, .i 20, .i 51], .i 0]) := by
  refine Fun_cc [ownxT 186, ctHashed, ctHeight] mo Tryz.func190 (by decide) cc190 rs190 Tryz.ntmps190 (by simp) ?_
  have hct := ctOwnx_ok (ctHashed_ok (ctHeight_ok CtOK_nil))
  have hO : ownxR (15 : BitVec 32) = .tup [.i 0, .i 0, .b false] := rfl
  have hO' : ownxR 15#32 = .tup [.i 0, .i 0, .b false] := rfl
  have hx0 : hx 0 = 10 := rfl
  have hx1 : hx 1 = 16 := rfl
  have hx2 : hx 2 = 20 := rfl
  have hb : hashedS 1 = (false, 24) := rfl
  refine AW_run hct 1000 ?_
  simp (maxSteps := 10000000) (disch := omega) only [go_sem, c190, ownxT, ctHashed, ctHeight, hO, hO', hx0, hx1, hx2, hb, reduceIte, seval, -BitVec.isValue, -BitVec.reduceOfNat, -List.reduceReplicate]
  try simp
theorem Xmss_16 : Fun Tryz.prog Gs 190 [Enc.enc (16 : BitVec 32)] (.tup [.agg [.u32 16, .b true, .i 32, .i 10, .i 67], .i 0]) := by
  refine Fun_cc [ownxT 186, ctHashed, ctHeight] mo Tryz.func190 (by decide) cc190 rs190 Tryz.ntmps190 (by simp) ?_
  have hct := ctOwnx_ok (ctHashed_ok (ctHeight_ok CtOK_nil))
  have hO : ownxR (16 : BitVec 32) = .tup [.i 0, .i 0, .b false] := rfl
  have hO' : ownxR 16#32 = .tup [.i 0, .i 0, .b false] := rfl
  have hx0 : hx 0 = 10 := rfl
  have hx1 : hx 1 = 16 := rfl
  have hx2 : hx 2 = 20 := rfl
  have hb : hashedS 2 = (true, 32) := rfl
  refine AW_run hct 1000 ?_
  simp (maxSteps := 10000000) (disch := omega) only [go_sem, c190, ownxT, ctHashed, ctHeight, hO, hO', hx0, hx1, hx2, hb, reduceIte, seval, -BitVec.isValue, -BitVec.reduceOfNat, -List.reduceReplicate]
  try simp
theorem Xmss_17 : Fun Tryz.prog Gs 190 [Enc.enc (17 : BitVec 32)] (.tup [.agg [.u32 17, .b true, .i 32, .i 16, .i 67], .i 0]) := by
  refine Fun_cc [ownxT 186, ctHashed, ctHeight] mo Tryz.func190 (by decide) cc190 rs190 Tryz.ntmps190 (by simp) ?_
  have hct := ctOwnx_ok (ctHashed_ok (ctHeight_ok CtOK_nil))
  have hO : ownxR (17 : BitVec 32) = .tup [.i 0, .i 0, .b false] := rfl
  have hO' : ownxR 17#32 = .tup [.i 0, .i 0, .b false] := rfl
  have hx0 : hx 0 = 10 := rfl
  have hx1 : hx 1 = 16 := rfl
  have hx2 : hx 2 = 20 := rfl
  have hb : hashedS 2 = (true, 32) := rfl
  refine AW_run hct 1000 ?_
  simp (maxSteps := 10000000) (disch := omega) only [go_sem, c190, ownxT, ctHashed, ctHeight, hO, hO', hx0, hx1, hx2, hb, reduceIte, seval, -BitVec.isValue, -BitVec.reduceOfNat, -List.reduceReplicate]
  try simp
theorem Xmss_18 : Fun Tryz.prog Gs 190 [Enc.enc (18 : BitVec 32)] (.tup [.agg [.u32 18, .b true, .i 32, .i 20, .i 67], .i 0]) := by
  refine Fun_cc [ownxT 186, ctHashed, ctHeight] mo Tryz.func190 (by decide) cc190 rs190 Tryz.ntmps190 (by simp) ?_
  have hct := ctOwnx_ok (ctHashed_ok (ctHeight_ok CtOK_nil))
  have hO : ownxR (18 : BitVec 32) = .tup [.i 0, .i 0, .b false] := rfl
  have hO' : ownxR 18#32 = .tup [.i 0, .i 0, .b false] := rfl
  have hx0 : hx 0 = 10 := rfl
  have hx1 : hx 1 = 16 := rfl
  have hx2 : hx 2 = 20 := rfl
  have hb : hashedS 2 = (true, 32) := rfl
  refine AW_run hct 1000 ?_
  simp (maxSteps := 10000000) (disch := omega) only [go_sem, c190, ownxT, ctHashed, ctHeight, hO, hO', hx0, hx1, hx2, hb, reduceIte, seval, -BitVec.isValue, -BitVec.reduceOfNat, -List.reduceReplicate]
  try simp
theorem Xmss_19 : Fun Tryz.prog Gs 190 [Enc.enc (19 : BitVec 32)] (.tup [.agg [.u32 19, .b true, .i 24, .i 10, .i 51], .i 0]) := by
  refine Fun_cc [ownxT 186, ctHashed, ctHeight] mo Tryz.func190 (by decide) cc190 rs190 Tryz.ntmps190 (by simp) ?_
  have hct := ctOwnx_ok (ctHashed_ok (ctHeight_ok CtOK_nil))
  have hO : ownxR (19 : BitVec 32) = .tup [.i 0, .i 0, .b false] := rfl
  have hO' : ownxR 19#32 = .tup [.i 0, .i 0, .b false] := rfl
  have hx0 : hx 0 = 10 := rfl
  have hx1 : hx 1 = 16 := rfl
  have hx2 : hx 2 = 20 := rfl
  have hb : hashedS 3 = (true, 24) := rfl
  refine AW_run hct 1000 ?_
  simp (maxSteps := 10000000) (disch := omega) only [go_sem, c190, ownxT, ctHashed, ctHeight, hO, hO', hx0, hx1, hx2, hb, reduceIte, seval, -BitVec.isValue, -BitVec.reduceOfNat, -List.reduceReplicate]
  try simp
theorem Xmss_20 : Fun Tryz.prog Gs 190 [Enc.enc (20 : BitVec 32)] (.tup [.agg [.u32 20, .b true, .i 24, .i 16, .i 51], .i 0]) := by
  refine Fun_cc [ownxT 186, ctHashed, ctHeight] mo Tryz.func190 (by decide) cc190 rs190 Tryz.ntmps190 (by simp) ?_
  have hct := ctOwnx_ok (ctHashed_ok (ctHeight_ok CtOK_nil))
  have hO : ownxR (20 : BitVec 32) = .tup [.i 0, .i 0, .b false] := rfl
  have hO' : ownxR 20#32 = .tup [.i 0, .i 0, .b false] := rfl
  have hx0 : hx 0 = 10 := rfl
  have hx1 : hx 1 = 16 := rfl
  have hx2 : hx 2 = 20 := rfl
  have hb : hashedS 3 = (true, 24) := rfl
  refine AW_run hct 1000 ?_
  simp (maxSteps := 10000000) (disch := omega) only [go_sem, c190, ownxT, ctHashed, ctHeight, hO, hO', hx0, hx1, hx2, hb, reduceIte, seval, -BitVec.isValue, -BitVec.reduceOfNat, -List.reduceReplicate]
  try simp
theorem Xmss_21 : Fun Tryz.prog Gs 190 [Enc.enc (21 : BitVec 32)] (.tup [.agg [.u32 21, .b true, .i 24, .i 20, .i 51], .i 0]) := by
  refine Fun_cc [ownxT 186, ctHashed, ctHeight] mo Tryz.func190 (by decide) cc190 rs190 Tryz.ntmps190 (by simp) ?_
  have hct := ctOwnx_ok (ctHashed_ok (ctHeight_ok CtOK_nil))
  have hO : ownxR (21 : BitVec 32) = .tup [.i 0, .i 0, .b false] := rfl
  have hO' : ownxR 21#32 = .tup [.i 0, .i 0, .b false] := rfl
  have hx0 : hx 0 = 10 := rfl
  have hx1 : hx 1 = 16 := rfl
  have hx2 : hx 2 = 20 := rfl
  have hb : hashedS 3 = (true, 24) := rfl
  refine AW_run hct 1000 ?_
  simp (maxSteps := 10000000) (disch := omega) only [go_sem, c190, ownxT, ctHashed, ctHeight, hO, hO', hx0, hx1, hx2, hb, reduceIte, seval, -BitVec.isValue, -BitVec.reduceOfNat, -List.reduceReplicate]
  try simp
set_option maxHeartbeats 1000000 in
theorem Xmss_fun (c : BitVec 32) : Fun Tryz.prog Gs 190 [Enc.enc c] (xmsR c) := by
  by_cases hl : (1 ≤ c.toNat ∧ c.toNat ≤ 3) ∨ (13 ≤ c.toNat ∧ c.toNat ≤ 21)
  · have hl' : c.toNat = 1 ∨ c.toNat = 2 ∨ c.toNat = 3 ∨ c.toNat = 13 ∨ c.toNat = 14 ∨ c.toNat = 15 ∨ c.toNat = 16 ∨ c.toNat = 17 ∨ c.toNat = 18 ∨ c.toNat = 19 ∨ c.toNat = 20 ∨ c.toNat = 21 := by omega
    rcases hl' with e | e | e | e | e | e | e | e | e | e | e | e
    · obtain rfl : c = 1#32 := BitVec.eq_of_toNat_eq e
      exact Xmss_1
    · obtain rfl : c = 2#32 := BitVec.eq_of_toNat_eq e
      exact Xmss_2
    · obtain rfl : c = 3#32 := BitVec.eq_of_toNat_eq e
      exact Xmss_3
    · obtain rfl : c = 13#32 := BitVec.eq_of_toNat_eq e
      exact Xmss_13
    · obtain rfl : c = 14#32 := BitVec.eq_of_toNat_eq e
      exact Xmss_14
    · obtain rfl : c = 15#32 := BitVec.eq_of_toNat_eq e
      exact Xmss_15
    · obtain rfl : c = 16#32 := BitVec.eq_of_toNat_eq e
      exact Xmss_16
    · obtain rfl : c = 17#32 := BitVec.eq_of_toNat_eq e
      exact Xmss_17
    · obtain rfl : c = 18#32 := BitVec.eq_of_toNat_eq e
      exact Xmss_18
    · obtain rfl : c = 19#32 := BitVec.eq_of_toNat_eq e
      exact Xmss_19
    · obtain rfl : c = 20#32 := BitVec.eq_of_toNat_eq e
      exact Xmss_20
    · obtain rfl : c = 21#32 := BitVec.eq_of_toNat_eq e
      exact Xmss_21
  · have g1 : ¬ (1 ≤ c.toNat ∧ c.toNat ≤ 3) := fun h => hl (.inl h)
    have g2 : ¬ (13 ≤ c.toNat ∧ c.toNat ≤ 21) := fun h => hl (.inr h)
    have hA : (¬ (1#32 ≤ c)) ∨ (1#32 ≤ c ∧ ¬ (c ≤ 3#32)) := by
      rw [BitVec.le_def, BitVec.le_def]; simp; omega
    have hB : (¬ (13#32 ≤ c)) ∨ (13#32 ≤ c ∧ ¬ (c ≤ 21#32)) := by
      rw [BitVec.le_def, BitVec.le_def]; simp; omega
    refine Fun_cc [ownxT 186, ctHashed, ctHeight] mo Tryz.func190 (by decide) cc190 rs190 Tryz.ntmps190 (by simp) ?_
    have hct := ctOwnx_ok (ctHashed_ok (ctHeight_ok CtOK_nil))
    cases hS : ownxS c with
    | none =>
      have hO : ownxR c = .tup [.i 0, .i 0, .b false] := by rw [ownxR, hS]
      have hR : xmsR c = .tup [.agg [.u32 0, .b false, .i 0, .i 0, .i 0], .i 60] := by rw [xmsR, xmsT, xmsF, if_neg g1, if_neg g2, hS]; rfl
      rw [hR]
      rcases hA with h1 | ⟨h1, h2⟩
      · have h3 : ¬ (13#32 ≤ c) := by rw [BitVec.le_def] at h1 ⊢; simp at h1 ⊢; omega
        refine AW_run hct 1000 ?_
        simp (maxSteps := 10000000) (disch := omega) only [go_sem, c190, ownxT, ctHashed, ctHeight, hO, h1, h3, decide_false, reduceIte, seval, -BitVec.isValue, -BitVec.reduceOfNat, -List.reduceReplicate]
        try simp
      · rcases hB with h3 | ⟨h3, h4⟩
        · refine AW_run hct 1000 ?_
          simp (maxSteps := 10000000) (disch := omega) only [go_sem, c190, ownxT, ctHashed, ctHeight, hO, h1, h2, h3, decide_false, reduceIte, seval, -BitVec.isValue, -BitVec.reduceOfNat, -List.reduceReplicate]
          try simp
        · refine AW_run hct 1000 ?_
          simp (maxSteps := 10000000) (disch := omega) only [go_sem, c190, ownxT, ctHashed, ctHeight, hO, h1, h2, h3, h4, decide_false, reduceIte, seval, -BitVec.isValue, -BitVec.reduceOfNat, -List.reduceReplicate]
          try simp
    | some p =>
      obtain ⟨f, q⟩ := p
      have hf : f < 4 := by
        unfold ownxS at hS
        split at hS
        · simp only [Option.some.injEq, Prod.mk.injEq] at hS; omega
        · simp at hS
      have hO : ownxR c = .tup [.i f, .i q, .b (decide (1 ≤ q ∧ q ≤ 4))] := by rw [ownxR, hS]
      have hh := hashedS_eq f hf
      by_cases hq : 1 ≤ q ∧ q ≤ 4
      · have hR : xmsR c = .tup [.agg [.u32 c, .b (decide (2 ≤ f)), .i (if f % 2 = 1 then 24 else 32), .i q, .i (if f % 2 = 1 then 51 else 67)], .i 0] := by rw [xmsR, xmsT, xmsF, if_neg g1, if_neg g2, hS]; simp only; rw [if_pos hq]; rfl
        rw [hR]
        rcases (by omega : f = 0 ∨ f = 1 ∨ f = 2 ∨ f = 3) with rfl | rfl | rfl | rfl
        · rcases hA with h1 | ⟨h1, h2⟩
          · have h3 : ¬ (13#32 ≤ c) := by rw [BitVec.le_def] at h1 ⊢; simp at h1 ⊢; omega
            refine AW_run hct 1000 ?_
            simp (maxSteps := 10000000) (disch := omega) only [go_sem, c190, ownxT, ctHashed, ctHeight, hO, h1, h3, hsh0, hsh1, hsh2, hsh3, hq, and_self, decide_true, reduceIte, seval, -BitVec.isValue, -BitVec.reduceOfNat, -List.reduceReplicate]
            try simp
          · rcases hB with h3 | ⟨h3, h4⟩
            · refine AW_run hct 1000 ?_
              simp (maxSteps := 10000000) (disch := omega) only [go_sem, c190, ownxT, ctHashed, ctHeight, hO, h1, h2, h3, hsh0, hsh1, hsh2, hsh3, hq, and_self, decide_true, reduceIte, seval, -BitVec.isValue, -BitVec.reduceOfNat, -List.reduceReplicate]
              try simp
            · refine AW_run hct 1000 ?_
              simp (maxSteps := 10000000) (disch := omega) only [go_sem, c190, ownxT, ctHashed, ctHeight, hO, h1, h2, h3, h4, hsh0, hsh1, hsh2, hsh3, hq, and_self, decide_true, reduceIte, seval, -BitVec.isValue, -BitVec.reduceOfNat, -List.reduceReplicate]
              try simp
        · rcases hA with h1 | ⟨h1, h2⟩
          · have h3 : ¬ (13#32 ≤ c) := by rw [BitVec.le_def] at h1 ⊢; simp at h1 ⊢; omega
            refine AW_run hct 1000 ?_
            simp (maxSteps := 10000000) (disch := omega) only [go_sem, c190, ownxT, ctHashed, ctHeight, hO, h1, h3, hsh0, hsh1, hsh2, hsh3, hq, and_self, decide_true, reduceIte, seval, -BitVec.isValue, -BitVec.reduceOfNat, -List.reduceReplicate]
            try simp
          · rcases hB with h3 | ⟨h3, h4⟩
            · refine AW_run hct 1000 ?_
              simp (maxSteps := 10000000) (disch := omega) only [go_sem, c190, ownxT, ctHashed, ctHeight, hO, h1, h2, h3, hsh0, hsh1, hsh2, hsh3, hq, and_self, decide_true, reduceIte, seval, -BitVec.isValue, -BitVec.reduceOfNat, -List.reduceReplicate]
              try simp
            · refine AW_run hct 1000 ?_
              simp (maxSteps := 10000000) (disch := omega) only [go_sem, c190, ownxT, ctHashed, ctHeight, hO, h1, h2, h3, h4, hsh0, hsh1, hsh2, hsh3, hq, and_self, decide_true, reduceIte, seval, -BitVec.isValue, -BitVec.reduceOfNat, -List.reduceReplicate]
              try simp
        · rcases hA with h1 | ⟨h1, h2⟩
          · have h3 : ¬ (13#32 ≤ c) := by rw [BitVec.le_def] at h1 ⊢; simp at h1 ⊢; omega
            refine AW_run hct 1000 ?_
            simp (maxSteps := 10000000) (disch := omega) only [go_sem, c190, ownxT, ctHashed, ctHeight, hO, h1, h3, hsh0, hsh1, hsh2, hsh3, hq, and_self, decide_true, reduceIte, seval, -BitVec.isValue, -BitVec.reduceOfNat, -List.reduceReplicate]
            try simp
          · rcases hB with h3 | ⟨h3, h4⟩
            · refine AW_run hct 1000 ?_
              simp (maxSteps := 10000000) (disch := omega) only [go_sem, c190, ownxT, ctHashed, ctHeight, hO, h1, h2, h3, hsh0, hsh1, hsh2, hsh3, hq, and_self, decide_true, reduceIte, seval, -BitVec.isValue, -BitVec.reduceOfNat, -List.reduceReplicate]
              try simp
            · refine AW_run hct 1000 ?_
              simp (maxSteps := 10000000) (disch := omega) only [go_sem, c190, ownxT, ctHashed, ctHeight, hO, h1, h2, h3, h4, hsh0, hsh1, hsh2, hsh3, hq, and_self, decide_true, reduceIte, seval, -BitVec.isValue, -BitVec.reduceOfNat, -List.reduceReplicate]
              try simp
        · rcases hA with h1 | ⟨h1, h2⟩
          · have h3 : ¬ (13#32 ≤ c) := by rw [BitVec.le_def] at h1 ⊢; simp at h1 ⊢; omega
            refine AW_run hct 1000 ?_
            simp (maxSteps := 10000000) (disch := omega) only [go_sem, c190, ownxT, ctHashed, ctHeight, hO, h1, h3, hsh0, hsh1, hsh2, hsh3, hq, and_self, decide_true, reduceIte, seval, -BitVec.isValue, -BitVec.reduceOfNat, -List.reduceReplicate]
            try simp
          · rcases hB with h3 | ⟨h3, h4⟩
            · refine AW_run hct 1000 ?_
              simp (maxSteps := 10000000) (disch := omega) only [go_sem, c190, ownxT, ctHashed, ctHeight, hO, h1, h2, h3, hsh0, hsh1, hsh2, hsh3, hq, and_self, decide_true, reduceIte, seval, -BitVec.isValue, -BitVec.reduceOfNat, -List.reduceReplicate]
              try simp
            · refine AW_run hct 1000 ?_
              simp (maxSteps := 10000000) (disch := omega) only [go_sem, c190, ownxT, ctHashed, ctHeight, hO, h1, h2, h3, h4, hsh0, hsh1, hsh2, hsh3, hq, and_self, decide_true, reduceIte, seval, -BitVec.isValue, -BitVec.reduceOfNat, -List.reduceReplicate]
              try simp
      · have hR : xmsR c = .tup [.agg [.u32 0, .b false, .i 0, .i 0, .i 0], .i 60] := by rw [xmsR, xmsT, xmsF, if_neg g1, if_neg g2, hS]; simp only; rw [if_neg hq]; rfl
        rw [hR]
        rcases hA with h1 | ⟨h1, h2⟩
        · have h3 : ¬ (13#32 ≤ c) := by rw [BitVec.le_def] at h1 ⊢; simp at h1 ⊢; omega
          refine AW_run hct 1000 ?_
          simp (maxSteps := 10000000) (disch := omega) only [go_sem, c190, ownxT, ctHashed, ctHeight, hO, h1, h3, hq, decide_false, reduceIte, seval, -BitVec.isValue, -BitVec.reduceOfNat, -List.reduceReplicate]
          try simp
        · rcases hB with h3 | ⟨h3, h4⟩
          · refine AW_run hct 1000 ?_
            simp (maxSteps := 10000000) (disch := omega) only [go_sem, c190, ownxT, ctHashed, ctHeight, hO, h1, h2, h3, hq, decide_false, reduceIte, seval, -BitVec.isValue, -BitVec.reduceOfNat, -List.reduceReplicate]
            try simp
          · refine AW_run hct 1000 ?_
            simp (maxSteps := 10000000) (disch := omega) only [go_sem, c190, ownxT, ctHashed, ctHeight, hO, h1, h2, h3, h4, hq, decide_false, reduceIte, seval, -BitVec.isValue, -BitVec.reduceOfNat, -List.reduceReplicate]
            try simp
def ctXmss (n : Nat) : Nat × (List AV → R) := (n, A1 fun c : BitVec 32 => (True, xmsR c))
theorem ctXmss_ok {Ct : List (Nat × (List AV → R))} (h : CtOK Tryz.prog Gs Ct) : CtOK Tryz.prog Gs (ctXmss 190 :: Ct) := CtOK_cons (Row1 fun k _ => Xmss_fun k) h
end Go.Lv
namespace Go.Lv
open Go Go.Proofs
set_option linter.unusedSimpArgs false
set_option maxRecDepth 100000
theorem rXmss_1 : Fun Tryz.prog Gs 76 [Enc.enc (1 : BitVec 32)] (.tup [.agg [.u32 1, .b false, .i 32, .i 10, .i 67], .i 0]) := by
  refine Fun_cc [ownxT 141, ctRbytes] mo Tryz.func76 (by decide) cc76 rs76 Tryz.ntmps76 (by simp) ?_
  have hct := ctROwnx_ok (ctRbytes_ok CtOK_nil)
  have hO : ownxR (1 : BitVec 32) = .tup [.i 0, .i 0, .b false] := rfl
  have hO' : ownxR 1#32 = .tup [.i 0, .i 0, .b false] := rfl
  have hx0 : hx 0 = 10 := rfl
  have hx1 : hx 1 = 16 := rfl
  have hx2 : hx 2 = 20 := rfl
  have hb : hashedS 0 = (false, 32) := rfl
  refine AW_run hct 1000 ?_
  simp (maxSteps := 10000000) (disch := omega) only [go_sem, c76, ownxT, ctRbytes, hO, hO', hx0, hx1, hx2, hb, reduceIte, seval, -BitVec.isValue, -BitVec.reduceOfNat, -List.reduceReplicate]
  try simp
theorem rXmss_2 : Fun Tryz.prog Gs 76 [Enc.enc (2 : BitVec 32)] (.tup [.agg [.u32 2, .b false, .i 32, .i 16, .i 67], .i 0]) := by
  refine Fun_cc [ownxT 141, ctRbytes] mo Tryz.func76 (by decide) cc76 rs76 Tryz.ntmps76 (by simp) ?_
  have hct := ctROwnx_ok (ctRbytes_ok CtOK_nil)
  have hO : ownxR (2 : BitVec 32) = .tup [.i 0, .i 0, .b false] := rfl
  have hO' : ownxR 2#32 = .tup [.i 0, .i 0, .b false] := rfl
  have hx0 : hx 0 = 10 := rfl
  have hx1 : hx 1 = 16 := rfl
  have hx2 : hx 2 = 20 := rfl
  have hb : hashedS 0 = (false, 32) := rfl
  refine AW_run hct 1000 ?_
  simp (maxSteps := 10000000) (disch := omega) only [go_sem, c76, ownxT, ctRbytes, hO, hO', hx0, hx1, hx2, hb, reduceIte, seval, -BitVec.isValue, -BitVec.reduceOfNat, -List.reduceReplicate]
  try simp
theorem rXmss_3 : Fun Tryz.prog Gs 76 [Enc.enc (3 : BitVec 32)] (.tup [.agg [.u32 3, .b false, .i 32, .i 20, .i 67], .i 0]) := by
  refine Fun_cc [ownxT 141, ctRbytes] mo Tryz.func76 (by decide) cc76 rs76 Tryz.ntmps76 (by simp) ?_
  have hct := ctROwnx_ok (ctRbytes_ok CtOK_nil)
  have hO : ownxR (3 : BitVec 32) = .tup [.i 0, .i 0, .b false] := rfl
  have hO' : ownxR 3#32 = .tup [.i 0, .i 0, .b false] := rfl
  have hx0 : hx 0 = 10 := rfl
  have hx1 : hx 1 = 16 := rfl
  have hx2 : hx 2 = 20 := rfl
  have hb : hashedS 0 = (false, 32) := rfl
  refine AW_run hct 1000 ?_
  simp (maxSteps := 10000000) (disch := omega) only [go_sem, c76, ownxT, ctRbytes, hO, hO', hx0, hx1, hx2, hb, reduceIte, seval, -BitVec.isValue, -BitVec.reduceOfNat, -List.reduceReplicate]
  try simp
theorem rXmss_13 : Fun Tryz.prog Gs 76 [Enc.enc (13 : BitVec 32)] (.tup [.agg [.u32 13, .b false, .i 24, .i 10, .i 51], .i 0]) := by
  refine Fun_cc [ownxT 141, ctRbytes] mo Tryz.func76 (by decide) cc76 rs76 Tryz.ntmps76 (by simp) ?_
  have hct := ctROwnx_ok (ctRbytes_ok CtOK_nil)
  have hO : ownxR (13 : BitVec 32) = .tup [.i 0, .i 0, .b false] := rfl
  have hO' : ownxR 13#32 = .tup [.i 0, .i 0, .b false] := rfl
  have hx0 : hx 0 = 10 := rfl
  have hx1 : hx 1 = 16 := rfl
  have hx2 : hx 2 = 20 := rfl
  have hb : hashedS 1 = (false, 24) := rfl
  refine AW_run hct 1000 ?_
  simp (maxSteps := 10000000) (disch := omega) only [go_sem, c76, ownxT, ctRbytes, hO, hO', hx0, hx1, hx2, hb, reduceIte, seval, -BitVec.isValue, -BitVec.reduceOfNat, -List.reduceReplicate]
  try simp
theorem rXmss_14 : Fun Tryz.prog Gs 76 [Enc.enc (14 : BitVec 32)] (.tup [.agg [.u32 14, .b false, .i 24, .i 16, .i 51], .i 0]) := by
  refine Fun_cc [ownxT 141, ctRbytes] mo Tryz.func76 (by decide) cc76 rs76 Tryz.ntmps76 (by simp) ?_
  have hct := ctROwnx_ok (ctRbytes_ok CtOK_nil)
  have hO : ownxR (14 : BitVec 32) = .tup [.i 0, .i 0, .b false] := rfl
  have hO' : ownxR 14#32 = .tup [.i 0, .i 0, .b false] := rfl
  have hx0 : hx 0 = 10 := rfl
  have hx1 : hx 1 = 16 := rfl
  have hx2 : hx 2 = 20 := rfl
  have hb : hashedS 1 = (false, 24) := rfl
  refine AW_run hct 1000 ?_
  simp (maxSteps := 10000000) (disch := omega) only [go_sem, c76, ownxT, ctRbytes, hO, hO', hx0, hx1, hx2, hb, reduceIte, seval, -BitVec.isValue, -BitVec.reduceOfNat, -List.reduceReplicate]
  try simp
theorem rXmss_15 : Fun Tryz.prog Gs 76 [Enc.enc (15 : BitVec 32)] (.tup [.agg [.u32 15, .b false, .i 24, .i 20, .i 51], .i 0]) := by
  refine Fun_cc [ownxT 141, ctRbytes] mo Tryz.func76 (by decide) cc76 rs76 Tryz.ntmps76 (by simp) ?_
  have hct := ctROwnx_ok (ctRbytes_ok CtOK_nil)
  have hO : ownxR (15 : BitVec 32) = .tup [.i 0, .i 0, .b false] := rfl
  have hO' : ownxR 15#32 = .tup [.i 0, .i 0, .b false] := rfl
  have hx0 : hx 0 = 10 := rfl
  have hx1 : hx 1 = 16 := rfl
  have hx2 : hx 2 = 20 := rfl
  have hb : hashedS 1 = (false, 24) := rfl
  refine AW_run hct 1000 ?_
  simp (maxSteps := 10000000) (disch := omega) only [go_sem, c76, ownxT, ctRbytes, hO, hO', hx0, hx1, hx2, hb, reduceIte, seval, -BitVec.isValue, -BitVec.reduceOfNat, -List.reduceReplicate]
  try simp
theorem rXmss_16 : Fun Tryz.prog Gs 76 [Enc.enc (16 : BitVec 32)] (.tup [.agg [.u32 16, .b true, .i 32, .i 10, .i 67], .i 0]) := by
  refine Fun_cc [ownxT 141, ctRbytes] mo Tryz.func76 (by decide) cc76 rs76 Tryz.ntmps76 (by simp) ?_
  have hct := ctROwnx_ok (ctRbytes_ok CtOK_nil)
  have hO : ownxR (16 : BitVec 32) = .tup [.i 0, .i 0, .b false] := rfl
  have hO' : ownxR 16#32 = .tup [.i 0, .i 0, .b false] := rfl
  have hx0 : hx 0 = 10 := rfl
  have hx1 : hx 1 = 16 := rfl
  have hx2 : hx 2 = 20 := rfl
  have hb : hashedS 2 = (true, 32) := rfl
  refine AW_run hct 1000 ?_
  simp (maxSteps := 10000000) (disch := omega) only [go_sem, c76, ownxT, ctRbytes, hO, hO', hx0, hx1, hx2, hb, reduceIte, seval, -BitVec.isValue, -BitVec.reduceOfNat, -List.reduceReplicate]
  try simp
theorem rXmss_17 : Fun Tryz.prog Gs 76 [Enc.enc (17 : BitVec 32)] (.tup [.agg [.u32 17, .b true, .i 32, .i 16, .i 67], .i 0]) := by
  refine Fun_cc [ownxT 141, ctRbytes] mo Tryz.func76 (by decide) cc76 rs76 Tryz.ntmps76 (by simp) ?_
  have hct := ctROwnx_ok (ctRbytes_ok CtOK_nil)
  have hO : ownxR (17 : BitVec 32) = .tup [.i 0, .i 0, .b false] := rfl
  have hO' : ownxR 17#32 = .tup [.i 0, .i 0, .b false] := rfl
  have hx0 : hx 0 = 10 := rfl
  have hx1 : hx 1 = 16 := rfl
  have hx2 : hx 2 = 20 := rfl
  have hb : hashedS 2 = (true, 32) := rfl
  refine AW_run hct 1000 ?_
  simp (maxSteps := 10000000) (disch := omega) only [go_sem, c76, ownxT, ctRbytes, hO, hO', hx0, hx1, hx2, hb, reduceIte, seval, -BitVec.isValue, -BitVec.reduceOfNat, -List.reduceReplicate]
  try simp
theorem rXmss_18 : Fun Tryz.prog Gs 76 [Enc.enc (18 : BitVec 32)] (.tup [.agg [.u32 18, .b true, .i 32, .i 20, .i 67], .i 0]) := by
  refine Fun_cc [ownxT 141, ctRbytes] mo Tryz.func76 (by decide) cc76 rs76 Tryz.ntmps76 (by simp) ?_
  have hct := ctROwnx_ok (ctRbytes_ok CtOK_nil)
  have hO : ownxR (18 : BitVec 32) = .tup [.i 0, .i 0, .b false] := rfl
  have hO' : ownxR 18#32 = .tup [.i 0, .i 0, .b false] := rfl
  have hx0 : hx 0 = 10 := rfl
  have hx1 : hx 1 = 16 := rfl
  have hx2 : hx 2 = 20 := rfl
  have hb : hashedS 2 = (true, 32) := rfl
  refine AW_run hct 1000 ?_
  simp (maxSteps := 10000000) (disch := omega) only [go_sem, c76, ownxT, ctRbytes, hO, hO', hx0, hx1, hx2, hb, reduceIte, seval, -BitVec.isValue, -BitVec.reduceOfNat, -List.reduceReplicate]
  try simp
theorem rXmss_19 : Fun Tryz.prog Gs 76 [Enc.enc (19 : BitVec 32)] (.tup [.agg [.u32 19, .b true, .i 24, .i 10, .i 51], .i 0]) := by
  refine Fun_cc [ownxT 141, ctRbytes] mo Tryz.func76 (by decide) cc76 rs76 Tryz.ntmps76 (by simp) ?_
  have hct := ctROwnx_ok (ctRbytes_ok CtOK_nil)
  have hO : ownxR (19 : BitVec 32) = .tup [.i 0, .i 0, .b false] := rfl
  have hO' : ownxR 19#32 = .tup [.i 0, .i 0, .b false] := rfl
  have hx0 : hx 0 = 10 := rfl
  have hx1 : hx 1 = 16 := rfl
  have hx2 : hx 2 = 20 := rfl
  have hb : hashedS 3 = (true, 24) := rfl
  refine AW_run hct 1000 ?_
  simp (maxSteps := 10000000) (disch := omega) only [go_sem, c76, ownxT, ctRbytes, hO, hO', hx0, hx1, hx2, hb, reduceIte, seval, -BitVec.isValue, -BitVec.reduceOfNat, -List.reduceReplicate]
  try simp
theorem rXmss_20 : Fun Tryz.prog Gs 76 [Enc.enc (20 : BitVec 32)] (.tup [.agg [.u32 20, .b true, .i 24, .i 16, .i 51], .i 0]) := by
  refine Fun_cc [ownxT 141, ctRbytes] mo Tryz.func76 (by decide) cc76 rs76 Tryz.ntmps76 (by simp) ?_
  have hct := ctROwnx_ok (ctRbytes_ok CtOK_nil)
  have hO : ownxR (20 : BitVec 32) = .tup [.i 0, .i 0, .b false] := rfl
  have hO' : ownxR 20#32 = .tup [.i 0, .i 0, .b false] := rfl
  have hx0 : hx 0 = 10 := rfl
  have hx1 : hx 1 = 16 := rfl
  have hx2 : hx 2 = 20 := rfl
  have hb : hashedS 3 = (true, 24) := rfl
  refine AW_run hct 1000 ?_
  simp (maxSteps := 10000000) (disch := omega) only [go_sem, c76, ownxT, ctRbytes, hO, hO', hx0, hx1, hx2, hb, reduceIte, seval, -BitVec.isValue, -BitVec.reduceOfNat, -List.reduceReplicate]
  try simp
theorem rXmss_21 : Fun Tryz.prog Gs 76 [Enc.enc (21 : BitVec 32)] (.tup [.agg [.u32 21, .b true, .i 24, .i 20, .i 51], .i 0]) := by
  refine Fun_cc [ownxT 141, ctRbytes] mo Tryz.func76 (by decide) cc76 rs76 Tryz.ntmps76 (by simp) ?_
  have hct := ctROwnx_ok (ctRbytes_ok CtOK_nil)
  have hO : ownxR (21 : BitVec 32) = .tup [.i 0, .i 0, .b false] := rfl
  have hO' : ownxR 21#32 = .tup [.i 0, .i 0, .b false] := rfl
  have hx0 : hx 0 = 10 := rfl
  have hx1 : hx 1 = 16 := rfl
  have hx2 : hx 2 = 20 := rfl
  have hb : hashedS 3 = (true, 24) := rfl
  refine AW_run hct 1000 ?_
  simp (maxSteps := 10000000) (disch := omega) only [go_sem, c76, ownxT, ctRbytes, hO, hO', hx0, hx1, hx2, hb, reduceIte, seval, -BitVec.isValue, -BitVec.reduceOfNat, -List.reduceReplicate]
  try simp
set_option maxHeartbeats 1000000 in
theorem rXmss_fun (c : BitVec 32) : Fun Tryz.prog Gs 76 [Enc.enc c] (xmsR c) := by
  by_cases hl : (1 ≤ c.toNat ∧ c.toNat ≤ 3) ∨ (13 ≤ c.toNat ∧ c.toNat ≤ 21)
  · have hl' : c.toNat = 1 ∨ c.toNat = 2 ∨ c.toNat = 3 ∨ c.toNat = 13 ∨ c.toNat = 14 ∨ c.toNat = 15 ∨ c.toNat = 16 ∨ c.toNat = 17 ∨ c.toNat = 18 ∨ c.toNat = 19 ∨ c.toNat = 20 ∨ c.toNat = 21 := by omega
    rcases hl' with e | e | e | e | e | e | e | e | e | e | e | e
    · obtain rfl : c = 1#32 := BitVec.eq_of_toNat_eq e
      exact rXmss_1
    · obtain rfl : c = 2#32 := BitVec.eq_of_toNat_eq e
      exact rXmss_2
    · obtain rfl : c = 3#32 := BitVec.eq_of_toNat_eq e
      exact rXmss_3
    · obtain rfl : c = 13#32 := BitVec.eq_of_toNat_eq e
      exact rXmss_13
    · obtain rfl : c = 14#32 := BitVec.eq_of_toNat_eq e
      exact rXmss_14
    · obtain rfl : c = 15#32 := BitVec.eq_of_toNat_eq e
      exact rXmss_15
    · obtain rfl : c = 16#32 := BitVec.eq_of_toNat_eq e
      exact rXmss_16
    · obtain rfl : c = 17#32 := BitVec.eq_of_toNat_eq e
      exact rXmss_17
    · obtain rfl : c = 18#32 := BitVec.eq_of_toNat_eq e
      exact rXmss_18
    · obtain rfl : c = 19#32 := BitVec.eq_of_toNat_eq e
      exact rXmss_19
    · obtain rfl : c = 20#32 := BitVec.eq_of_toNat_eq e
      exact rXmss_20
    · obtain rfl : c = 21#32 := BitVec.eq_of_toNat_eq e
      exact rXmss_21
  · have g1 : ¬ (1 ≤ c.toNat ∧ c.toNat ≤ 3) := fun h => hl (.inl h)
    have g2 : ¬ (13 ≤ c.toNat ∧ c.toNat ≤ 21) := fun h => hl (.inr h)
    have hA : (¬ (1#32 ≤ c)) ∨ (1#32 ≤ c ∧ ¬ (c ≤ 3#32)) := by
      rw [BitVec.le_def, BitVec.le_def]; simp; omega
    have hB : (¬ (13#32 ≤ c)) ∨ (13#32 ≤ c ∧ ¬ (c ≤ 21#32)) := by
      rw [BitVec.le_def, BitVec.le_def]; simp; omega
    refine Fun_cc [ownxT 141, ctRbytes] mo Tryz.func76 (by decide) cc76 rs76 Tryz.ntmps76 (by simp) ?_
    have hct := ctROwnx_ok (ctRbytes_ok CtOK_nil)
    cases hS : ownxS c with
    | none =>
      have hO : ownxR c = .tup [.i 0, .i 0, .b false] := by rw [ownxR, hS]
      have hR : xmsR c = .tup [.agg [.u32 0, .b false, .i 0, .i 0, .i 0], .i 60] := by rw [xmsR, xmsT, xmsF, if_neg g1, if_neg g2, hS]; rfl
      rw [hR]
      rcases hA with h1 | ⟨h1, h2⟩
      · have h3 : ¬ (13#32 ≤ c) := by rw [BitVec.le_def] at h1 ⊢; simp at h1 ⊢; omega
        refine AW_run hct 1000 ?_
        simp (maxSteps := 10000000) (disch := omega) only [go_sem, c76, ownxT, ctRbytes, hO, h1, h3, decide_false, reduceIte, seval, -BitVec.isValue, -BitVec.reduceOfNat, -List.reduceReplicate]
        try simp
      · rcases hB with h3 | ⟨h3, h4⟩
        · refine AW_run hct 1000 ?_
          simp (maxSteps := 10000000) (disch := omega) only [go_sem, c76, ownxT, ctRbytes, hO, h1, h2, h3, decide_false, reduceIte, seval, -BitVec.isValue, -BitVec.reduceOfNat, -List.reduceReplicate]
          try simp
        · refine AW_run hct 1000 ?_
          simp (maxSteps := 10000000) (disch := omega) only [go_sem, c76, ownxT, ctRbytes, hO, h1, h2, h3, h4, decide_false, reduceIte, seval, -BitVec.isValue, -BitVec.reduceOfNat, -List.reduceReplicate]
          try simp
    | some p =>
      obtain ⟨f, q⟩ := p
      have hf : f < 4 := by
        unfold ownxS at hS
        split at hS
        · simp only [Option.some.injEq, Prod.mk.injEq] at hS; omega
        · simp at hS
      have hO : ownxR c = .tup [.i f, .i q, .b (decide (1 ≤ q ∧ q ≤ 4))] := by rw [ownxR, hS]
      skip
      by_cases hq : 1 ≤ q ∧ q ≤ 4
      · have hR : xmsR c = .tup [.agg [.u32 c, .b (decide (2 ≤ f)), .i (if f % 2 = 1 then 24 else 32), .i q, .i (if f % 2 = 1 then 51 else 67)], .i 0] := by rw [xmsR, xmsT, xmsF, if_neg g1, if_neg g2, hS]; simp only; rw [if_pos hq]; rfl
        rw [hR]
        rcases (by omega : f = 0 ∨ f = 1 ∨ f = 2 ∨ f = 3) with rfl | rfl | rfl | rfl
        · rcases hA with h1 | ⟨h1, h2⟩
          · have h3 : ¬ (13#32 ≤ c) := by rw [BitVec.le_def] at h1 ⊢; simp at h1 ⊢; omega
            refine AW_run hct 1000 ?_
            simp (maxSteps := 10000000) (disch := omega) only [go_sem, c76, ownxT, ctRbytes, hO, h1, h3, hsh0, hsh1, hsh2, hsh3, hq, and_self, decide_true, reduceIte, seval, -BitVec.isValue, -BitVec.reduceOfNat, -List.reduceReplicate]
            try simp
          · rcases hB with h3 | ⟨h3, h4⟩
            · refine AW_run hct 1000 ?_
              simp (maxSteps := 10000000) (disch := omega) only [go_sem, c76, ownxT, ctRbytes, hO, h1, h2, h3, hsh0, hsh1, hsh2, hsh3, hq, and_self, decide_true, reduceIte, seval, -BitVec.isValue, -BitVec.reduceOfNat, -List.reduceReplicate]
              try simp
            · refine AW_run hct 1000 ?_
              simp (maxSteps := 10000000) (disch := omega) only [go_sem, c76, ownxT, ctRbytes, hO, h1, h2, h3, h4, hsh0, hsh1, hsh2, hsh3, hq, and_self, decide_true, reduceIte, seval, -BitVec.isValue, -BitVec.reduceOfNat, -List.reduceReplicate]
              try simp
        · rcases hA with h1 | ⟨h1, h2⟩
          · have h3 : ¬ (13#32 ≤ c) := by rw [BitVec.le_def] at h1 ⊢; simp at h1 ⊢; omega
            refine AW_run hct 1000 ?_
            simp (maxSteps := 10000000) (disch := omega) only [go_sem, c76, ownxT, ctRbytes, hO, h1, h3, hsh0, hsh1, hsh2, hsh3, hq, and_self, decide_true, reduceIte, seval, -BitVec.isValue, -BitVec.reduceOfNat, -List.reduceReplicate]
            try simp
          · rcases hB with h3 | ⟨h3, h4⟩
            · refine AW_run hct 1000 ?_
              simp (maxSteps := 10000000) (disch := omega) only [go_sem, c76, ownxT, ctRbytes, hO, h1, h2, h3, hsh0, hsh1, hsh2, hsh3, hq, and_self, decide_true, reduceIte, seval, -BitVec.isValue, -BitVec.reduceOfNat, -List.reduceReplicate]
              try simp
            · refine AW_run hct 1000 ?_
              simp (maxSteps := 10000000) (disch := omega) only [go_sem, c76, ownxT, ctRbytes, hO, h1, h2, h3, h4, hsh0, hsh1, hsh2, hsh3, hq, and_self, decide_true, reduceIte, seval, -BitVec.isValue, -BitVec.reduceOfNat, -List.reduceReplicate]
              try simp
        · rcases hA with h1 | ⟨h1, h2⟩
          · have h3 : ¬ (13#32 ≤ c) := by rw [BitVec.le_def] at h1 ⊢; simp at h1 ⊢; omega
            refine AW_run hct 1000 ?_
            simp (maxSteps := 10000000) (disch := omega) only [go_sem, c76, ownxT, ctRbytes, hO, h1, h3, hsh0, hsh1, hsh2, hsh3, hq, and_self, decide_true, reduceIte, seval, -BitVec.isValue, -BitVec.reduceOfNat, -List.reduceReplicate]
            try simp
          · rcases hB with h3 | ⟨h3, h4⟩
            · refine AW_run hct 1000 ?_
              simp (maxSteps := 10000000) (disch := omega) only [go_sem, c76, ownxT, ctRbytes, hO, h1, h2, h3, hsh0, hsh1, hsh2, hsh3, hq, and_self, decide_true, reduceIte, seval, -BitVec.isValue, -BitVec.reduceOfNat, -List.reduceReplicate]
              try simp
            · refine AW_run hct 1000 ?_
              simp (maxSteps := 10000000) (disch := omega) only [go_sem, c76, ownxT, ctRbytes, hO, h1, h2, h3, h4, hsh0, hsh1, hsh2, hsh3, hq, and_self, decide_true, reduceIte, seval, -BitVec.isValue, -BitVec.reduceOfNat, -List.reduceReplicate]
              try simp
        · rcases hA with h1 | ⟨h1, h2⟩
          · have h3 : ¬ (13#32 ≤ c) := by rw [BitVec.le_def] at h1 ⊢; simp at h1 ⊢; omega
            refine AW_run hct 1000 ?_
            simp (maxSteps := 10000000) (disch := omega) only [go_sem, c76, ownxT, ctRbytes, hO, h1, h3, hsh0, hsh1, hsh2, hsh3, hq, and_self, decide_true, reduceIte, seval, -BitVec.isValue, -BitVec.reduceOfNat, -List.reduceReplicate]
            try simp
          · rcases hB with h3 | ⟨h3, h4⟩
            · refine AW_run hct 1000 ?_
              simp (maxSteps := 10000000) (disch := omega) only [go_sem, c76, ownxT, ctRbytes, hO, h1, h2, h3, hsh0, hsh1, hsh2, hsh3, hq, and_self, decide_true, reduceIte, seval, -BitVec.isValue, -BitVec.reduceOfNat, -List.reduceReplicate]
              try simp
            · refine AW_run hct 1000 ?_
              simp (maxSteps := 10000000) (disch := omega) only [go_sem, c76, ownxT, ctRbytes, hO, h1, h2, h3, h4, hsh0, hsh1, hsh2, hsh3, hq, and_self, decide_true, reduceIte, seval, -BitVec.isValue, -BitVec.reduceOfNat, -List.reduceReplicate]
              try simp
      · have hR : xmsR c = .tup [.agg [.u32 0, .b false, .i 0, .i 0, .i 0], .i 60] := by rw [xmsR, xmsT, xmsF, if_neg g1, if_neg g2, hS]; simp only; rw [if_neg hq]; rfl
        rw [hR]
        rcases hA with h1 | ⟨h1, h2⟩
        · have h3 : ¬ (13#32 ≤ c) := by rw [BitVec.le_def] at h1 ⊢; simp at h1 ⊢; omega
          refine AW_run hct 1000 ?_
          simp (maxSteps := 10000000) (disch := omega) only [go_sem, c76, ownxT, ctRbytes, hO, h1, h3, hq, decide_false, reduceIte, seval, -BitVec.isValue, -BitVec.reduceOfNat, -List.reduceReplicate]
          try simp
        · rcases hB with h3 | ⟨h3, h4⟩
          · refine AW_run hct 1000 ?_
            simp (maxSteps := 10000000) (disch := omega) only [go_sem, c76, ownxT, ctRbytes, hO, h1, h2, h3, hq, decide_false, reduceIte, seval, -BitVec.isValue, -BitVec.reduceOfNat, -List.reduceReplicate]
            try simp
          · refine AW_run hct 1000 ?_
            simp (maxSteps := 10000000) (disch := omega) only [go_sem, c76, ownxT, ctRbytes, hO, h1, h2, h3, h4, hq, decide_false, reduceIte, seval, -BitVec.isValue, -BitVec.reduceOfNat, -List.reduceReplicate]
            try simp
theorem ctRXmss_ok {Ct : List (Nat × (List AV → R))} (h : CtOK Tryz.prog Gs Ct) : CtOK Tryz.prog Gs (ctXmss 76 :: Ct) := CtOK_cons (Row1 fun k _ => rXmss_fun k) h
theorem rMayXmss_fun (o : Xms) : Fun Tryz.prog Gs 79 [Enc.enc o] (.b (decide (xmsT o.code = some o))) := by
  refine Fun_cc [ctXmss 76] mo Tryz.func79 (by decide) cc79 rs79 Tryz.ntmps79 (by simp) ?_
  refine AW_run (ctRXmss_ok CtOK_nil) 1000 ?_
  cases h : xmsT o.code with
  | none =>
    simp (maxSteps := 10000000) (disch := omega) only [go_sem, c79, ctXmss, xmsR, h, xms0, reduceIte, seval, -BitVec.isValue, -BitVec.reduceOfNat, -List.reduceReplicate]
    try simp
  | some x =>
    by_cases e : x = o
    · subst e
      simp (maxSteps := 10000000) (disch := omega) only [go_sem, c79, ctXmss, xmsR, h, eqL, eq1, reduceIte, seval, -BitVec.isValue, -BitVec.reduceOfNat, -List.reduceReplicate]
      try simp
    · have e2 : (o.code = x.code ∧ o.shake = x.shake ∧ o.n = x.n ∧ o.h = x.h ∧ o.len = x.len) = False := eq_false fun ⟨a, b, c, d, f⟩ => e (by cases x; cases o; simp_all)
      simp (maxSteps := 10000000) (disch := omega) only [go_sem, c79, ctXmss, xmsR, h, eqL, eq1, reduceIte, seval, -BitVec.isValue, -BitVec.reduceOfNat, -List.reduceReplicate]
      · have : (decide (o.code = x.code) && (decide (o.shake = x.shake) && (decide (o.n = x.n) && (decide (o.h = x.h) && decide (o.len = x.len))))) = false := by
          have := e2
          simp only [← Bool.decide_and]; exact decide_eq_false (of_eq_false e2)
        rw [this]; simp [e]
def ctRMayXmss : Nat × (List AV → R) := (79, A1 fun o : Xms => (True, .b (decide (xmsT o.code = some o))))
theorem ctRMayXmss_ok {Ct : List (Nat × (List AV → R))} (h : CtOK Tryz.prog Gs Ct) : CtOK Tryz.prog Gs (ctRMayXmss :: Ct) := CtOK_cons (Row1 fun k _ => rMayXmss_fun k) h
end Go.Lv
