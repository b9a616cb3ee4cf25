/- A part of the proof. -/
import Derived.Test.YtlieeeembbjenaaYb
set_option linter.all false
namespace Go.Lv
open Go Go.Proofs
set_option linter.unusedSimpArgs false
set_option maxRecDepth 100000

@[go_sem] theorem ots_eta (o : Ots) : (⟨o.code, o.shake, o.n, o.w, o.p, o.ls⟩ : Ots) = o := rfl
@[go_sem] theorem lms_eta (o : Lms) : (⟨o.code, o.shake, o.n, o.h⟩ : Lms) = o := rfl
@[go_sem] theorem lv_eta (o : Level) : (⟨o.a, o.b⟩ : Level) = o := rfl
/-! levels -/
def lvc (ls : List Level) : List AV := ls.flatMap fun v => [.u32 v.a, .u32 v.b]
theorem lvc_nil : lvc [] = [] := rfl
theorem lvc_cons (v : Level) (ls : List Level) : lvc (v :: ls) = .u32 v.a :: .u32 v.b :: lvc ls := rfl
@[go_sem] theorem lvc_len (ls : List Level) : (lvc ls).length = ls.length * 2 := by
  induction ls with
  | nil => rfl
  | cons t ts ih => rw [lvc_cons, List.length_cons, List.length_cons, ih, List.length_cons]; omega
theorem lvc_at (ls : List Level) (i : Nat) (h : i < ls.length) : ((lvc ls).drop (i * 2)).take 2 = [.u32 (ls.getD i ⟨0, 0⟩).a, .u32 (ls.getD i ⟨0, 0⟩).b] := by
  induction i generalizing ls with
  | zero => cases ls with
    | nil => simp at h
    | cons v ls => simp [lvc_cons]
  | succ i ih => cases ls with
    | nil => simp at h
    | cons v ls =>
      have := ih ls (by simpa using h)
      rw [lvc_cons, show (i + 1) * 2 = i * 2 + 1 + 1 by omega, List.drop_succ_cons, List.drop_succ_cons, this]; simp
@[go_sem] theorem lvc_ren (m : List (Nat × Nat)) (ts : List Level) : ren.renL m (lvc ts) = lvc ts := by
  induction ts with
  | nil => rfl
  | cons t ts ih => rw [lvc_cons]; simp only [ren.renL, ren, ih]
@[go_sem] theorem lvc_idk (n : Nat) (ts : List Level) : idk.idkL n (lvc ts) = True := by
  induction ts with
  | nil => simp [lvc, idk.idkL]
  | cons t ts ih => rw [lvc_cons]; simp only [idk.idkL, idk, ih, and_self]
theorem lvc_fz (H : List (Nat × Seg)) (k : Nat) (fl : Bool) (ls : List Level) : (lvc ls).map (frz H (k + 1) fl) = lvc ls := by
  induction ls with
  | nil => rfl
  | cons t ts ih => rw [lvc_cons, List.map_cons, List.map_cons, ih]; rfl
theorem lvc_own (ls : List Level) : own.ownL (lvc ls) = false := by
  induction ls with
  | nil => rfl
  | cons t ts ih => rw [lvc_cons]; simp [own.ownL, own, ih]
theorem lvc_cln (ls : List Level) : cln.clnL (lvc ls) = true := by
  induction ls with
  | nil => rfl
  | cons t ts ih => rw [lvc_cons]; simp [cln.clnL, cln, ih]
structure Lvs where
  l : List Level
def okV : List AV → Prop
  | [] => True
  | .u32 _ :: .u32 _ :: r => okV r
  | _ => False
def deV : List AV → List Level
  | .u32 a :: .u32 b :: r => ⟨a, b⟩ :: deV r
  | _ => []
@[go_sem] theorem okV_nil : okV [] = True := rfl
@[go_sem] theorem okV_cons (a b : BitVec 32) (r : List AV) : okV (.u32 a :: .u32 b :: r) = okV r := rfl
@[go_sem] theorem deV_nil : deV [] = [] := rfl
@[go_sem] theorem deV_cons (a b : BitVec 32) (r : List AV) : deV (.u32 a :: .u32 b :: r) = ⟨a, b⟩ :: deV r := rfl
@[go_sem] theorem okV_lvc (ls : List Level) : okV (lvc ls) = True := by
  induction ls with
  | nil => rfl
  | cons t ts ih => rw [lvc_cons, okV_cons, ih]
@[go_sem] theorem deV_lvc (ls : List Level) : deV (lvc ls) = ls := by
  induction ls with
  | nil => rfl
  | cons t ts ih => rw [lvc_cons, deV_cons, ih]
theorem okV_eq : ∀ (n : Nat) (cs : List AV), cs.length ≤ n → okV cs → cs = lvc (deV cs)
  | n, [], _, _ => rfl
  | 0, _ :: _, h, _ => by simp at h
  | n + 1, cs, hn, h => by
    unfold okV at h
    split at h
    · rfl
    · rename_i a b r
      rw [deV_cons, lvc_cons, ← okV_eq n r (by simp at hn; omega) h]
    · exact h.elim
instance : Enc Lvs where
  enc x := .ros false x.l.length (lvc x.l)
  ret x := .ros true x.l.length (lvc x.l)
  ok | .ros fr n cs => fr = false ∧ cs.length = n * 2 ∧ okV cs | _ => False
  dec | .ros _ _ cs => ⟨deV cs⟩ | _ => ⟨[]⟩
  dflt := ⟨[]⟩
  d := 2
  sound x h := by
    cases x <;> first | exact h.elim | skip
    obtain ⟨rfl, h1, h⟩ := h
    have := okV_eq _ _ (Nat.le_refl _) h
    simp only
    rw [← this]
    rw [this, lvc_len] at h1
    congr 1
    omega
  fz H k x h := by
    obtain ⟨j, rfl⟩ := Nat.exists_eq_add_of_le' h
    have := lvc_fz H j
    simp only [frz, this, Bool.and_false, Bool.and_true, and_self]
  ow x := by simp only [own, lvc_own, and_self]
  cl x := by simp only [cln, lvc_cln, Bool.and_true]
  rn m x := by simp only [ren, lvc_ren, and_self]
  ik n x := by simp only [idk, lvc_idk, and_self]
@[go_sem] theorem enc_lvs (v : Lvs) : Enc.enc v = .ros false v.l.length (lvc v.l) := rfl
@[go_sem] theorem ok_lvs (n : Nat) (cs : List AV) : Enc.ok Lvs (.ros false n cs) = (cs.length = n * 2 ∧ okV cs) := by
  show (false = false ∧ _) = _
  simp
@[go_sem] theorem dec_lvs (n : Nat) (cs : List AV) : (Enc.dec (.ros false n cs) : Lvs) = ⟨deV cs⟩ := rfl
attribute [go_sem] lvc_own lvc_cln

theorem lmsX_ok (a : BitVec 32) : 0 ≤ (lmsX a).h ∧ (lmsX a).h ≤ 25 ∧ 0 ≤ (lmsX a).n ∧ (lmsX a).n ≤ 32 := by
  unfold lmsX lmsT
  cases h : lmsF a with
  | none => simp only [Option.map_none, Option.getD_none]; decide
  | some p =>
    have hp : p.2 ≤ 25 := by
      unfold lmsF at h
      split at h
      · simp only [Option.some.injEq] at h; subst h; simp only; omega
      · split at h
        · split at h
          · simp only [Option.some.injEq] at h; subst h; simp only; omega
          · simp at h
        · simp at h
    simp only [Option.map_some, Option.getD_some]
    refine ⟨by omega, by omega, ?_, ?_⟩ <;> split <;> omega
theorem otsX_ok (b : BitVec 32) : 0 ≤ (otsX b).p ∧ (otsX b).p ≤ 265 ∧ 0 ≤ (otsX b).n ∧ (otsX b).n ≤ 32 := by
  unfold otsX otsT
  split <;> decide

def otsLen (o : Ots) : Int := if otsT o.code = some o then 4 + o.n * (o.p + 1) else 0
def lmsPub (l : Lms) : Int := if lmsT l.code = some l then 24 + l.n else 0
def lmsLen (l : Lms) (o : Ots) : Int := if fitP l o then 8 + otsLen o + l.h * l.n else 0
def otsSm (o : Ots) : Prop := 0 ≤ o.p ∧ o.p ≤ 265 ∧ 0 ≤ o.n ∧ o.n ≤ 32
def lmsSm (l : Lms) : Prop := 0 ≤ l.h ∧ l.h ≤ 25 ∧ 0 ≤ l.n ∧ l.n ≤ 32
theorem mul_sm {a b : Int} {A B : Nat} (h1 : 0 ≤ a) (h2 : a ≤ A) (h3 : 0 ≤ b) (h4 : b ≤ B) : 0 ≤ a * b ∧ a * b ≤ ((A * B : Nat) : Int) :=
  ⟨Int.mul_nonneg h1 h3, by rw [Int.natCast_mul]; exact Int.mul_le_mul h2 h4 h3 (by omega)⟩
theorem otsLen_sm (o : Ots) (h : otsSm o) : 0 ≤ otsLen o ∧ otsLen o ≤ 8516 := by
  obtain ⟨h1, h2, h3, h4⟩ := h
  have := mul_sm (A := 32) (B := 266) h3 (by omega) (show 0 ≤ o.p + 1 by omega) (by omega)
  unfold otsLen
  split <;> omega
theorem lmsLen_sm (l : Lms) (o : Ots) (h0 : lmsSm l) (h : otsSm o) : 0 ≤ lmsLen l o ∧ lmsLen l o ≤ 9324 := by
  have := otsLen_sm o h
  obtain ⟨h1, h2, h3, h4⟩ := h0
  have := mul_sm (A := 25) (B := 32) h1 (by omega) h3 (by omega)
  unfold lmsLen
  split <;> omega
theorem lmsPub_sm (l : Lms) (h0 : lmsSm l) : 0 ≤ lmsPub l ∧ lmsPub l ≤ 56 := by
  obtain ⟨h1, h2, h3, h4⟩ := h0
  unfold lmsPub
  split <;> omega

theorem OtsLen_fun (o : Ots) (h : otsSm o) : Fun Try.prog [] 94 [Enc.enc o] (.i (otsLen o)) := by
  refine Fun_cc [ctIsOts] mo Try.func94 (by decide) cc94 rs94 Try.ntmps94 (by simp) ?_
  have hct := ctIsOts_ok CtOK_nil
  obtain ⟨h1, h2, h3, h4⟩ := h
  have := mul_sm (A := 32) (B := 266) h3 (by omega) (show 0 ≤ o.p + 1 by omega) (by omega)
  unfold otsLen
  by_cases h5 : otsT o.code = some o
  · rw [if_pos h5]
    refine AW_run hct 1000 ?_
    simp (maxSteps := 10000000) (disch := omega) only [go_sem, c94, ctIsOts, eq_true h5, decide_true, reduceIte, Nat.reduceAdd, Nat.reduceSub, Nat.reduceMul, Nat.reduceDiv, Nat.reduceMod, Nat.reducePow, Nat.reduceLT, Nat.reduceLeDiff, Nat.reduceBEq, Nat.reduceEqDiff, Nat.reduceAnd, Int.reduceLT, Int.reduceLE, Int.reduceEq, Int.reduceAdd, Int.reduceSub, Int.reduceMul, Int.reduceDiv, Int.reduceMod, Int.reducePow, Int.reduceToNat, Int.reduceNatCast, Int.reduceNeg, BitVec.reduceAdd, BitVec.reduceSub, BitVec.reduceMul, BitVec.reduceUDiv, BitVec.reduceUMod, BitVec.reduceDiv, BitVec.reduceMod, BitVec.reduceLT, BitVec.reduceLE, BitVec.reduceEq, BitVec.reduceToNat, BitVec.reduceToInt, BitVec.reduceOfInt, BitVec.reduceSetWidth, BitVec.reduceAnd, BitVec.reduceOr, BitVec.reduceXOr, BitVec.reduceNot, BitVec.reduceHShiftLeft, BitVec.reduceHShiftRight]
  · rw [if_neg h5]
    refine AW_run hct 1000 ?_
    simp (maxSteps := 10000000) (disch := omega) only [go_sem, c94, ctIsOts, h5, decide_false, reduceIte, Nat.reduceAdd, Nat.reduceSub, Nat.reduceMul, Nat.reduceDiv, Nat.reduceMod, Nat.reducePow, Nat.reduceLT, Nat.reduceLeDiff, Nat.reduceBEq, Nat.reduceEqDiff, Nat.reduceAnd, Int.reduceLT, Int.reduceLE, Int.reduceEq, Int.reduceAdd, Int.reduceSub, Int.reduceMul, Int.reduceDiv, Int.reduceMod, Int.reducePow, Int.reduceToNat, Int.reduceNatCast, Int.reduceNeg, BitVec.reduceAdd, BitVec.reduceSub, BitVec.reduceMul, BitVec.reduceUDiv, BitVec.reduceUMod, BitVec.reduceDiv, BitVec.reduceMod, BitVec.reduceLT, BitVec.reduceLE, BitVec.reduceEq, BitVec.reduceToNat, BitVec.reduceToInt, BitVec.reduceOfInt, BitVec.reduceSetWidth, BitVec.reduceAnd, BitVec.reduceOr, BitVec.reduceXOr, BitVec.reduceNot, BitVec.reduceHShiftLeft, BitVec.reduceHShiftRight]
theorem rOtsLen_fun (o : Ots) (h : otsSm o) : Fun Try.prog [] 96 [Enc.enc o] (.i (otsLen o)) := by
  refine Fun_cc [ctRMayOts] mo Try.func96 (by decide) cc96 rs96 Try.ntmps96 (by simp) ?_
  have hct := ctRMayOts_ok CtOK_nil
  obtain ⟨h1, h2, h3, h4⟩ := h
  have := mul_sm (A := 32) (B := 266) h3 (by omega) (show 0 ≤ o.p + 1 by omega) (by omega)
  unfold otsLen
  by_cases h5 : otsT o.code = some o
  · rw [if_pos h5]
    refine AW_run hct 1000 ?_
    simp (maxSteps := 10000000) (disch := omega) only [go_sem, c96, ctRMayOts, eq_true h5, decide_true, reduceIte, Nat.reduceAdd, Nat.reduceSub, Nat.reduceMul, Nat.reduceDiv, Nat.reduceMod, Nat.reducePow, Nat.reduceLT, Nat.reduceLeDiff, Nat.reduceBEq, Nat.reduceEqDiff, Nat.reduceAnd, Int.reduceLT, Int.reduceLE, Int.reduceEq, Int.reduceAdd, Int.reduceSub, Int.reduceMul, Int.reduceDiv, Int.reduceMod, Int.reducePow, Int.reduceToNat, Int.reduceNatCast, Int.reduceNeg, BitVec.reduceAdd, BitVec.reduceSub, BitVec.reduceMul, BitVec.reduceUDiv, BitVec.reduceUMod, BitVec.reduceDiv, BitVec.reduceMod, BitVec.reduceLT, BitVec.reduceLE, BitVec.reduceEq, BitVec.reduceToNat, BitVec.reduceToInt, BitVec.reduceOfInt, BitVec.reduceSetWidth, BitVec.reduceAnd, BitVec.reduceOr, BitVec.reduceXOr, BitVec.reduceNot, BitVec.reduceHShiftLeft, BitVec.reduceHShiftRight]
  · rw [if_neg h5]
    refine AW_run hct 1000 ?_
    simp (maxSteps := 10000000) (disch := omega) only [go_sem, c96, ctRMayOts, h5, decide_false, reduceIte, Nat.reduceAdd, Nat.reduceSub, Nat.reduceMul, Nat.reduceDiv, Nat.reduceMod, Nat.reducePow, Nat.reduceLT, Nat.reduceLeDiff, Nat.reduceBEq, Nat.reduceEqDiff, Nat.reduceAnd, Int.reduceLT, Int.reduceLE, Int.reduceEq, Int.reduceAdd, Int.reduceSub, Int.reduceMul, Int.reduceDiv, Int.reduceMod, Int.reducePow, Int.reduceToNat, Int.reduceNatCast, Int.reduceNeg, BitVec.reduceAdd, BitVec.reduceSub, BitVec.reduceMul, BitVec.reduceUDiv, BitVec.reduceUMod, BitVec.reduceDiv, BitVec.reduceMod, BitVec.reduceLT, BitVec.reduceLE, BitVec.reduceEq, BitVec.reduceToNat, BitVec.reduceToInt, BitVec.reduceOfInt, BitVec.reduceSetWidth, BitVec.reduceAnd, BitVec.reduceOr, BitVec.reduceXOr, BitVec.reduceNot, BitVec.reduceHShiftLeft, BitVec.reduceHShiftRight]
def ctOtsLen (n : Nat) : Nat × (List AV → R) := (n, A1 fun o : Ots => (otsSm o, .i (otsLen o)))
theorem ctOtsLen_ok {Ct : List (Nat × (List AV → R))} (h : CtOK Try.prog [] Ct) : CtOK Try.prog [] (ctOtsLen 94 :: Ct) := CtOK_cons (Row1 fun k h => OtsLen_fun k h) h
theorem ctROtsLen_ok {Ct : List (Nat × (List AV → R))} (h : CtOK Try.prog [] Ct) : CtOK Try.prog [] (ctOtsLen 96 :: Ct) := CtOK_cons (Row1 fun k h => rOtsLen_fun k h) h

theorem LmsPub_fun (o : Lms) (h : lmsSm o) : Fun Try.prog [] 73 [Enc.enc o] (.i (lmsPub o)) := by
  refine Fun_cc [ctIsLms 95] mo Try.func73 (by decide) cc73 rs73 Try.ntmps73 (by simp) ?_
  have hct := ctIsLms_ok CtOK_nil
  obtain ⟨h1, h2, h3, h4⟩ := h
  unfold lmsPub
  by_cases h5 : lmsT o.code = some o
  · rw [if_pos h5]
    refine AW_run hct 1000 ?_
    simp (maxSteps := 10000000) (disch := omega) only [go_sem, c73, ctIsLms, eq_true h5, decide_true, reduceIte, Nat.reduceAdd, Nat.reduceSub, Nat.reduceMul, Nat.reduceDiv, Nat.reduceMod, Nat.reducePow, Nat.reduceLT, Nat.reduceLeDiff, Nat.reduceBEq, Nat.reduceEqDiff, Nat.reduceAnd, Int.reduceLT, Int.reduceLE, Int.reduceEq, Int.reduceAdd, Int.reduceSub, Int.reduceMul, Int.reduceDiv, Int.reduceMod, Int.reducePow, Int.reduceToNat, Int.reduceNatCast, Int.reduceNeg, BitVec.reduceAdd, BitVec.reduceSub, BitVec.reduceMul, BitVec.reduceUDiv, BitVec.reduceUMod, BitVec.reduceDiv, BitVec.reduceMod, BitVec.reduceLT, BitVec.reduceLE, BitVec.reduceEq, BitVec.reduceToNat, BitVec.reduceToInt, BitVec.reduceOfInt, BitVec.reduceSetWidth, BitVec.reduceAnd, BitVec.reduceOr, BitVec.reduceXOr, BitVec.reduceNot, BitVec.reduceHShiftLeft, BitVec.reduceHShiftRight]
  · rw [if_neg h5]
    refine AW_run hct 1000 ?_
    simp (maxSteps := 10000000) (disch := omega) only [go_sem, c73, ctIsLms, h5, decide_false, reduceIte, Nat.reduceAdd, Nat.reduceSub, Nat.reduceMul, Nat.reduceDiv, Nat.reduceMod, Nat.reducePow, Nat.reduceLT, Nat.reduceLeDiff, Nat.reduceBEq, Nat.reduceEqDiff, Nat.reduceAnd, Int.reduceLT, Int.reduceLE, Int.reduceEq, Int.reduceAdd, Int.reduceSub, Int.reduceMul, Int.reduceDiv, Int.reduceMod, Int.reducePow, Int.reduceToNat, Int.reduceNatCast, Int.reduceNeg, BitVec.reduceAdd, BitVec.reduceSub, BitVec.reduceMul, BitVec.reduceUDiv, BitVec.reduceUMod, BitVec.reduceDiv, BitVec.reduceMod, BitVec.reduceLT, BitVec.reduceLE, BitVec.reduceEq, BitVec.reduceToNat, BitVec.reduceToInt, BitVec.reduceOfInt, BitVec.reduceSetWidth, BitVec.reduceAnd, BitVec.reduceOr, BitVec.reduceXOr, BitVec.reduceNot, BitVec.reduceHShiftLeft, BitVec.reduceHShiftRight]
theorem rLmsPub_fun (o : Lms) (h : lmsSm o) : Fun Try.prog [] 75 [Enc.enc o] (.i (lmsPub o)) := by
  refine Fun_cc [ctIsLms 97] mo Try.func75 (by decide) cc75 rs75 Try.ntmps75 (by simp) ?_
  have hct := ctRMayLms_ok CtOK_nil
  obtain ⟨h1, h2, h3, h4⟩ := h
  unfold lmsPub
  by_cases h5 : lmsT o.code = some o
  · rw [if_pos h5]
    refine AW_run hct 1000 ?_
    simp (maxSteps := 10000000) (disch := omega) only [go_sem, c75, ctIsLms, eq_true h5, decide_true, reduceIte, Nat.reduceAdd, Nat.reduceSub, Nat.reduceMul, Nat.reduceDiv, Nat.reduceMod, Nat.reducePow, Nat.reduceLT, Nat.reduceLeDiff, Nat.reduceBEq, Nat.reduceEqDiff, Nat.reduceAnd, Int.reduceLT, Int.reduceLE, Int.reduceEq, Int.reduceAdd, Int.reduceSub, Int.reduceMul, Int.reduceDiv, Int.reduceMod, Int.reducePow, Int.reduceToNat, Int.reduceNatCast, Int.reduceNeg, BitVec.reduceAdd, BitVec.reduceSub, BitVec.reduceMul, BitVec.reduceUDiv, BitVec.reduceUMod, BitVec.reduceDiv, BitVec.reduceMod, BitVec.reduceLT, BitVec.reduceLE, BitVec.reduceEq, BitVec.reduceToNat, BitVec.reduceToInt, BitVec.reduceOfInt, BitVec.reduceSetWidth, BitVec.reduceAnd, BitVec.reduceOr, BitVec.reduceXOr, BitVec.reduceNot, BitVec.reduceHShiftLeft, BitVec.reduceHShiftRight]
  · rw [if_neg h5]
    refine AW_run hct 1000 ?_
    simp (maxSteps := 10000000) (disch := omega) only [go_sem, c75, ctIsLms, h5, decide_false, reduceIte, Nat.reduceAdd, Nat.reduceSub, Nat.reduceMul, Nat.reduceDiv, Nat.reduceMod, Nat.reducePow, Nat.reduceLT, Nat.reduceLeDiff, Nat.reduceBEq, Nat.reduceEqDiff, Nat.reduceAnd, Int.reduceLT, Int.reduceLE, Int.reduceEq, Int.reduceAdd, Int.reduceSub, Int.reduceMul, Int.reduceDiv, Int.reduceMod, Int.reducePow, Int.reduceToNat, Int.reduceNatCast, Int.reduceNeg, BitVec.reduceAdd, BitVec.reduceSub, BitVec.reduceMul, BitVec.reduceUDiv, BitVec.reduceUMod, BitVec.reduceDiv, BitVec.reduceMod, BitVec.reduceLT, BitVec.reduceLE, BitVec.reduceEq, BitVec.reduceToNat, BitVec.reduceToInt, BitVec.reduceOfInt, BitVec.reduceSetWidth, BitVec.reduceAnd, BitVec.reduceOr, BitVec.reduceXOr, BitVec.reduceNot, BitVec.reduceHShiftLeft, BitVec.reduceHShiftRight]
def ctLmsPub (n : Nat) : Nat × (List AV → R) := (n, A1 fun o : Lms => (lmsSm o, .i (lmsPub o)))
theorem ctLmsPub_ok {Ct : List (Nat × (List AV → R))} (h : CtOK Try.prog [] Ct) : CtOK Try.prog [] (ctLmsPub 73 :: Ct) := CtOK_cons (Row1 fun k h => LmsPub_fun k h) h
theorem ctRLmsPub_ok {Ct : List (Nat × (List AV → R))} (h : CtOK Try.prog [] Ct) : CtOK Try.prog [] (ctLmsPub 75 :: Ct) := CtOK_cons (Row1 fun k h => rLmsPub_fun k h) h

theorem LmsLen_fun (l : Lms) (o : Ots) (h : lmsSm l ∧ otsSm o) : Fun Try.prog [] 72 [Enc.enc l, Enc.enc o] (.i (lmsLen l o)) := by
  refine Fun_cc [ctFit 85, ctOtsLen 94] mo Try.func72 (by decide) cc72 rs72 Try.ntmps72 (by simp) ?_
  have hct := ctFit_ok (ctOtsLen_ok CtOK_nil)
  have hs := otsLen_sm o h.2
  obtain ⟨⟨h1, h2, h3, h4⟩, hO⟩ := h
  have := mul_sm (A := 25) (B := 32) h1 (by omega) h3 (by omega)
  unfold lmsLen
  by_cases h5 : fitP l o
  · rw [if_pos h5]
    refine AW_run hct 1000 ?_
    simp (maxSteps := 10000000) (disch := omega) only [go_sem, c72, ctFit, ctOtsLen, eq_true h5, decide_true, hO, reduceIte, Nat.reduceAdd, Nat.reduceSub, Nat.reduceMul, Nat.reduceDiv, Nat.reduceMod, Nat.reducePow, Nat.reduceLT, Nat.reduceLeDiff, Nat.reduceBEq, Nat.reduceEqDiff, Nat.reduceAnd, Int.reduceLT, Int.reduceLE, Int.reduceEq, Int.reduceAdd, Int.reduceSub, Int.reduceMul, Int.reduceDiv, Int.reduceMod, Int.reducePow, Int.reduceToNat, Int.reduceNatCast, Int.reduceNeg, BitVec.reduceAdd, BitVec.reduceSub, BitVec.reduceMul, BitVec.reduceUDiv, BitVec.reduceUMod, BitVec.reduceDiv, BitVec.reduceMod, BitVec.reduceLT, BitVec.reduceLE, BitVec.reduceEq, BitVec.reduceToNat, BitVec.reduceToInt, BitVec.reduceOfInt, BitVec.reduceSetWidth, BitVec.reduceAnd, BitVec.reduceOr, BitVec.reduceXOr, BitVec.reduceNot, BitVec.reduceHShiftLeft, BitVec.reduceHShiftRight]
    congr 1; omega
  · rw [if_neg h5]
    refine AW_run hct 1000 ?_
    simp (maxSteps := 10000000) (disch := omega) only [go_sem, c72, ctFit, ctOtsLen, h5, decide_false, reduceIte, Nat.reduceAdd, Nat.reduceSub, Nat.reduceMul, Nat.reduceDiv, Nat.reduceMod, Nat.reducePow, Nat.reduceLT, Nat.reduceLeDiff, Nat.reduceBEq, Nat.reduceEqDiff, Nat.reduceAnd, Int.reduceLT, Int.reduceLE, Int.reduceEq, Int.reduceAdd, Int.reduceSub, Int.reduceMul, Int.reduceDiv, Int.reduceMod, Int.reducePow, Int.reduceToNat, Int.reduceNatCast, Int.reduceNeg, BitVec.reduceAdd, BitVec.reduceSub, BitVec.reduceMul, BitVec.reduceUDiv, BitVec.reduceUMod, BitVec.reduceDiv, BitVec.reduceMod, BitVec.reduceLT, BitVec.reduceLE, BitVec.reduceEq, BitVec.reduceToNat, BitVec.reduceToInt, BitVec.reduceOfInt, BitVec.reduceSetWidth, BitVec.reduceAnd, BitVec.reduceOr, BitVec.reduceXOr, BitVec.reduceNot, BitVec.reduceHShiftLeft, BitVec.reduceHShiftRight]
theorem rLmsLen_fun (l : Lms) (o : Ots) (h : lmsSm l ∧ otsSm o) : Fun Try.prog [] 74 [Enc.enc l, Enc.enc o] (.i (lmsLen l o)) := by
  refine Fun_cc [ctFit 86, ctOtsLen 96] mo Try.func74 (by decide) cc74 rs74 Try.ntmps74 (by simp) ?_
  have hct := ctRFit_ok (ctROtsLen_ok CtOK_nil)
  have hs := otsLen_sm o h.2
  obtain ⟨⟨h1, h2, h3, h4⟩, hO⟩ := h
  have := mul_sm (A := 25) (B := 32) h1 (by omega) h3 (by omega)
  unfold lmsLen
  by_cases h5 : fitP l o
  · rw [if_pos h5]
    refine AW_run hct 1000 ?_
    simp (maxSteps := 10000000) (disch := omega) only [go_sem, c74, ctFit, ctOtsLen, eq_true h5, decide_true, hO, reduceIte, Nat.reduceAdd, Nat.reduceSub, Nat.reduceMul, Nat.reduceDiv, Nat.reduceMod, Nat.reducePow, Nat.reduceLT, Nat.reduceLeDiff, Nat.reduceBEq, Nat.reduceEqDiff, Nat.reduceAnd, Int.reduceLT, Int.reduceLE, Int.reduceEq, Int.reduceAdd, Int.reduceSub, Int.reduceMul, Int.reduceDiv, Int.reduceMod, Int.reducePow, Int.reduceToNat, Int.reduceNatCast, Int.reduceNeg, BitVec.reduceAdd, BitVec.reduceSub, BitVec.reduceMul, BitVec.reduceUDiv, BitVec.reduceUMod, BitVec.reduceDiv, BitVec.reduceMod, BitVec.reduceLT, BitVec.reduceLE, BitVec.reduceEq, BitVec.reduceToNat, BitVec.reduceToInt, BitVec.reduceOfInt, BitVec.reduceSetWidth, BitVec.reduceAnd, BitVec.reduceOr, BitVec.reduceXOr, BitVec.reduceNot, BitVec.reduceHShiftLeft, BitVec.reduceHShiftRight]
    try omega
  · rw [if_neg h5]
    refine AW_run hct 1000 ?_
    simp (maxSteps := 10000000) (disch := omega) only [go_sem, c74, ctFit, ctOtsLen, h5, decide_false, reduceIte, Nat.reduceAdd, Nat.reduceSub, Nat.reduceMul, Nat.reduceDiv, Nat.reduceMod, Nat.reducePow, Nat.reduceLT, Nat.reduceLeDiff, Nat.reduceBEq, Nat.reduceEqDiff, Nat.reduceAnd, Int.reduceLT, Int.reduceLE, Int.reduceEq, Int.reduceAdd, Int.reduceSub, Int.reduceMul, Int.reduceDiv, Int.reduceMod, Int.reducePow, Int.reduceToNat, Int.reduceNatCast, Int.reduceNeg, BitVec.reduceAdd, BitVec.reduceSub, BitVec.reduceMul, BitVec.reduceUDiv, BitVec.reduceUMod, BitVec.reduceDiv, BitVec.reduceMod, BitVec.reduceLT, BitVec.reduceLE, BitVec.reduceEq, BitVec.reduceToNat, BitVec.reduceToInt, BitVec.reduceOfInt, BitVec.reduceSetWidth, BitVec.reduceAnd, BitVec.reduceOr, BitVec.reduceXOr, BitVec.reduceNot, BitVec.reduceHShiftLeft, BitVec.reduceHShiftRight]
def ctLmsLen (n : Nat) : Nat × (List AV → R) := (n, A2 fun (l : Lms) (o : Ots) => (lmsSm l ∧ otsSm o, .i (lmsLen l o)))
theorem ctLmsLen_ok {Ct : List (Nat × (List AV → R))} (h : CtOK Try.prog [] Ct) : CtOK Try.prog [] (ctLmsLen 72 :: Ct) := CtOK_cons (Row2 fun k o h => LmsLen_fun k o h) h
theorem ctRLmsLen_ok {Ct : List (Nat × (List AV → R))} (h : CtOK Try.prog [] Ct) : CtOK Try.prog [] (ctLmsLen 74 :: Ct) := CtOK_cons (Row2 fun k o h => rLmsLen_fun k o h) h
end Go.Lv
