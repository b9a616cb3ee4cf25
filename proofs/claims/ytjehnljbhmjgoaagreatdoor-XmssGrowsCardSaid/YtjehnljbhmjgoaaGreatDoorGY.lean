/- A part of the proof (GY). -/
import Derived.Test.YtjehnljbhmjgoaaGreatDoorGT
import Derived.Test.YtjehnljbhmjgoaaGreatDoorGK
set_option linter.all false
namespace Go.Lv
open Go Go.Proofs
set_option linter.unusedSimpArgs false
set_option maxRecDepth 100000
structure Lms where
  code : BitVec 32
  shake : Bool
  n : Int
  h : Int
  deriving DecidableEq
def Lms.av (o : Lms) : AV := .agg [.u32 o.code, .b o.shake, .i o.n, .i o.h]
def Lms.of : AV → Lms
  | .agg [.u32 c, .b s, .i n, .i h] => ⟨c, s, n, h⟩
  | _ => ⟨0, false, 0, 0⟩
def Lms.is : AV → Prop
  | .agg [.u32 _, .b _, .i _, .i _] => True
  | _ => False
instance : Enc Lms where
  enc := Lms.av
  ret := Lms.av
  ok := Lms.is
  dec := Lms.of
  dflt := ⟨0, false, 0, 0⟩
  d := 2
  sound x h := by
    unfold Lms.is at h
    split at h
    · rfl
    · exact h.elim
  fz H k x h := by obtain ⟨k, rfl⟩ := Nat.exists_eq_add_of_le' h; exact ⟨rfl, rfl, rfl, rfl⟩
  ow x := ⟨rfl, rfl⟩
  cl x := rfl
  rn m x := ⟨rfl, rfl⟩
  ik n x := by constructor <;> simp [Lms.av, idk, idk.idkL]
@[go_sem] theorem enc_lms (o : Lms) : Enc.enc o = .agg [.u32 o.code, .b o.shake, .i o.n, .i o.h] := rfl
@[go_sem] theorem ret_lms (o : Lms) : Enc.ret o = .agg [.u32 o.code, .b o.shake, .i o.n, .i o.h] := rfl
@[go_sem] theorem ok_lms (c : BitVec 32) (s : Bool) (n h : Int) : Enc.ok Lms (.agg [.u32 c, .b s, .i n, .i h]) = True := rfl
@[go_sem] theorem dec_lms (c : BitVec 32) (s : Bool) (n h : Int) : (Enc.dec (.agg [.u32 c, .b s, .i n, .i h]) : Lms) = ⟨c, s, n, h⟩ := rfl
def ownS (c : BitVec 32) : Option (Nat × Nat) :=
  if 4026531840 ≤ c.toNat ∧ c.toNat < 4026531904 then some ((c.toNat - 4026531840) / 16, (c.toNat - 4026531840) % 16) else none
def lmsF (c : BitVec 32) : Option (Nat × Nat) :=
  if 5 ≤ c.toNat ∧ c.toNat ≤ 24 then some ((c.toNat - 5) / 5, 5 * ((c.toNat - 5) % 5 + 1))
  else match ownS c with
    | some (f, h) => if 1 ≤ h ∧ h ≤ 4 then some (f, h) else none
    | none => none
def lmsT (c : BitVec 32) : Option Lms := (lmsF c).map fun p => ⟨c, decide (2 ≤ p.1), if p.1 % 2 = 1 then 24 else 32, p.2⟩
def lms0 : Lms := ⟨0, false, 0, 0⟩
theorem hashedS_eq (f : Nat) (h : f < 4) : hashedS f = (decide (2 ≤ f), if f % 2 = 1 then 24 else 32) := by
  rcases (by omega : f = 0 ∨ f = 1 ∨ f = 2 ∨ f = 3) with rfl | rfl | rfl | rfl <;> rfl
end Go.Lv
namespace Go.Lv
open Go Go.Proofs
set_option linter.unusedSimpArgs false
set_option maxRecDepth 100000
def fitP (l : Lms) (o : Ots) : Prop := lmsT l.code = some l ∧ otsT o.code = some o ∧ l.shake = o.shake ∧ l.n = o.n
instance (l : Lms) (o : Ots) : Decidable (fitP l o) := by unfold fitP; infer_instance
def lmsX (c : BitVec 32) : Lms := (lmsT c).getD lms0
def otsX (c : BitVec 32) : Ots := (otsT c).getD ots0
structure Level where
  a : BitVec 32
  b : BitVec 32
  deriving DecidableEq
instance : Enc Level where
  enc v := .agg [.u32 v.a, .u32 v.b]
  ret v := .agg [.u32 v.a, .u32 v.b]
  ok | .agg [.u32 _, .u32 _] => True | _ => False
  dec | .agg [.u32 a, .u32 b] => ⟨a, b⟩ | _ => ⟨0, 0⟩
  dflt := ⟨0, 0⟩
  d := 2
  sound x h := by
    split at h
    · rfl
    · exact h.elim
  fz H k x h := by obtain ⟨k, rfl⟩ := Nat.exists_eq_add_of_le' h; exact ⟨rfl, rfl, rfl, rfl⟩
  ow x := ⟨rfl, rfl⟩
  cl x := rfl
  rn m x := ⟨rfl, rfl⟩
  ik n x := by constructor <;> simp [idk, idk.idkL]
@[go_sem] theorem enc_lv (v : Level) : Enc.enc v = .agg [.u32 v.a, .u32 v.b] := rfl
@[go_sem] theorem ret_lv (v : Level) : Enc.ret v = .agg [.u32 v.a, .u32 v.b] := rfl
@[go_sem] theorem ok_lv (a b : BitVec 32) : Enc.ok Level (.agg [.u32 a, .u32 b]) = True := rfl
@[go_sem] theorem dec_lv (a b : BitVec 32) : (Enc.dec (.agg [.u32 a, .u32 b]) : Level) = ⟨a, b⟩ := rfl
def vfit (v : Level) : Prop := fitP (lmsX v.a) (otsX v.b)
instance (v : Level) : Decidable (vfit v) := by unfold vfit; infer_instance
end Go.Lv
namespace Go.Lv
open Go Go.Proofs
set_option linter.unusedSimpArgs false
set_option maxRecDepth 100000
@[go_sem] theorem ots_eta (o : Ots) : (⟨o.code, o.shake, o.n, o.w, o.p, o.ls⟩ : Ots) = o := rfl
@[go_sem] theorem lms_eta (o : Lms) : (⟨o.code, o.shake, o.n, o.h⟩ : Lms) = o := rfl
@[go_sem] theorem lv_eta (o : Level) : (⟨o.a, o.b⟩ : Level) = o := rfl
def lvc (ls : List Level) : List AV := ls.flatMap fun v => [.u32 v.a, .u32 v.b]
theorem lvc_cons (v : Level) (ls : List Level) : lvc (v :: ls) = .u32 v.a :: .u32 v.b :: lvc ls := rfl
@[go_sem] theorem lvc_len (ls : List Level) : (lvc ls).length = ls.length * 2 := by
  induction ls with
  | nil => rfl
  | cons t ts ih => rw [lvc_cons, List.length_cons, List.length_cons, ih, List.length_cons]; omega
@[go_sem] theorem lvc_ren (m : List (Nat × Nat)) (ts : List Level) : ren.renL m (lvc ts) = lvc ts := by
  induction ts with
  | nil => rfl
  | cons t ts ih => rw [lvc_cons]; simp only [ren.renL, ren, ih]
@[go_sem] theorem lvc_idk (n : Nat) (ts : List Level) : idk.idkL n (lvc ts) = True := by
  induction ts with
  | nil => simp [lvc, idk.idkL]
  | cons t ts ih => rw [lvc_cons]; simp only [idk.idkL, idk, ih, and_self]
theorem lvc_fz (H : List (Nat × Seg)) (k : Nat) (fl : Bool) (ls : List Level) : (lvc ls).map (frz H (k + 1) fl) = lvc ls := by
  induction ls with
  | nil => rfl
  | cons t ts ih => rw [lvc_cons, List.map_cons, List.map_cons, ih]; rfl
theorem lvc_own (ls : List Level) : own.ownL (lvc ls) = false := by
  induction ls with
  | nil => rfl
  | cons t ts ih => rw [lvc_cons]; simp [own.ownL, own, ih]
theorem lvc_cln (ls : List Level) : cln.clnL (lvc ls) = true := by
  induction ls with
  | nil => rfl
  | cons t ts ih => rw [lvc_cons]; simp [cln.clnL, cln, ih]
structure Lvs where
  l : List Level
def okV : List AV → Prop
  | [] => True
  | .u32 _ :: .u32 _ :: r => okV r
  | _ => False
def deV : List AV → List Level
  | .u32 a :: .u32 b :: r => ⟨a, b⟩ :: deV r
  | _ => []
@[go_sem] theorem okV_nil : okV [] = True := rfl
@[go_sem] theorem okV_cons (a b : BitVec 32) (r : List AV) : okV (.u32 a :: .u32 b :: r) = okV r := rfl
@[go_sem] theorem deV_nil : deV [] = [] := rfl
@[go_sem] theorem deV_cons (a b : BitVec 32) (r : List AV) : deV (.u32 a :: .u32 b :: r) = ⟨a, b⟩ :: deV r := rfl
@[go_sem] theorem okV_lvc (ls : List Level) : okV (lvc ls) = True := by
  induction ls with
  | nil => rfl
  | cons t ts ih => rw [lvc_cons, okV_cons, ih]
@[go_sem] theorem deV_lvc (ls : List Level) : deV (lvc ls) = ls := by
  induction ls with
  | nil => rfl
  | cons t ts ih => rw [lvc_cons, deV_cons, ih]
theorem okV_eq : ∀ (n : Nat) (cs : List AV), cs.length ≤ n → okV cs → cs = lvc (deV cs)
  | n, [], _, _ => rfl
  | 0, _ :: _, h, _ => by simp at h
  | n + 1, cs, hn, h => by
    unfold okV at h
    split at h
    · rfl
    · rename_i a b r
      rw [deV_cons, lvc_cons, ← okV_eq n r (by simp at hn; omega) h]
    · exact h.elim
instance : Enc Lvs where
  enc x := .ros false x.l.length (lvc x.l)
  ret x := .ros true x.l.length (lvc x.l)
  ok | .ros fr n cs => fr = false ∧ cs.length = n * 2 ∧ okV cs | _ => False
  dec | .ros _ _ cs => ⟨deV cs⟩ | _ => ⟨[]⟩
  dflt := ⟨[]⟩
  d := 2
  sound x h := by
    cases x <;> first | exact h.elim | skip
    obtain ⟨rfl, h1, h⟩ := h
    have := okV_eq _ _ (Nat.le_refl _) h
    simp only
    rw [← this]
    rw [this, lvc_len] at h1
    congr 1
    omega
  fz H k x h := by
    obtain ⟨j, rfl⟩ := Nat.exists_eq_add_of_le' h
    have := lvc_fz H j
    simp only [frz, this, Bool.and_false, Bool.and_true, and_self]
  ow x := by simp only [own, lvc_own, and_self]
  cl x := by simp only [cln, lvc_cln, Bool.and_true]
  rn m x := by simp only [ren, lvc_ren, and_self]
  ik n x := by simp only [idk, lvc_idk, and_self]
@[go_sem] theorem enc_lvs (v : Lvs) : Enc.enc v = .ros false v.l.length (lvc v.l) := rfl
@[go_sem] theorem ok_lvs (n : Nat) (cs : List AV) : Enc.ok Lvs (.ros false n cs) = (cs.length = n * 2 ∧ okV cs) := by
  show (false = false ∧ _) = _
  simp
@[go_sem] theorem dec_lvs (n : Nat) (cs : List AV) : (Enc.dec (.ros false n cs) : Lvs) = ⟨deV cs⟩ := rfl
attribute [go_sem] lvc_own lvc_cln
end Go.Lv
