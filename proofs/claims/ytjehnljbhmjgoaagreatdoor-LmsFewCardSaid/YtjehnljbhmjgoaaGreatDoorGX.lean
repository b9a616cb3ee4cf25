/- A part of the proof (GX). -/
import Derived.Test.YtjehnljbhmjgoaaGreatDoorGY
import Derived.Test.YtjehnljbhmjgoaaGreatDoorGK
set_option linter.all false
namespace Go.Lv
open Go Go.Proofs
set_option linter.unusedSimpArgs false
set_option maxRecDepth 100000
def pw (n : Nat) : BitVec 64 := BitVec.ofNat 64 (2 ^ n)
theorem pw_mul (n h : Nat) : pw n * pw h = pw (n + h) := by
  apply BitVec.eq_of_toNat_eq
  simp only [pw, BitVec.toNat_mul, BitVec.toNat_ofNat]
  rw [← Nat.mul_mod, ← Nat.pow_add]
theorem pw_two (n : Nat) : pw n * 2#64 = pw (n + 1) := pw_mul n 1
theorem pw_zero : pw 0 = 1#64 := rfl
def hN (v : Level) : Nat := (lmsX v.a).h.toNat
def hs (ls : List Level) (k : Nat) : Nat := ((ls.take k).map hN).sum
def σpow2 (n k : Nat) : St := ⟨[(3, .u64 (pw k)), (4, .i n), (5, .i k)], [], 0⟩
theorem power_fun (m : Int) (h0 : 0 ≤ m) (h1 : m ≤ 25) : Fun Tryz.prog Gs 130 [Enc.enc m] (.u64 (pw m.toNat)) := by
  obtain ⟨n, rfl⟩ := Int.eq_ofNat_of_zero_le h0
  refine Fun_cc [] mo Tryz.func130 (by decide) cc130 rs130 Tryz.ntmps130 (by simp) ?_
  refine AW_run CtOK_nil 1000 ?_
  simp (maxSteps := 10000000) (disch := omega) only [go_sem, c130, reduceIte, seval, -BitVec.isValue, -BitVec.reduceOfNat, -List.reduceReplicate]
  refine AW_loop (σpow2 n) (fun k => k ≤ n) (fun k => n - k) 0 (Nat.zero_le _) (Wk_p [] ?_) fun k hk => ?_
  · simp only [go_sem, σpow2, pw_zero, reduceIte, seval, -BitVec.isValue, -BitVec.reduceOfNat, -List.reduceReplicate]
    simp
  · have e1 : ((k : Int) + 1) = ((k + 1 : Nat) : Int) := by omega
    by_cases hd : k < n
    · have hd' : (k : Int) < n := by omega
      refine AW_run CtOK_nil 1000 ?_
      simp (maxSteps := 10000000) (disch := omega) only [go_sem, σpow2, hd', pw_two, reduceIte, seval, -BitVec.isValue, -BitVec.reduceOfNat, -List.reduceReplicate]
      refine ⟨k + 1, by omega, Wk_p [] ?_, by omega⟩
      simp only [go_sem, σpow2, e1, reduceIte, seval, -BitVec.isValue, -BitVec.reduceOfNat, -List.reduceReplicate]
      simp [← pw_two]
    · have : k = n := by omega
      subst this
      have hd' : ¬ ((k : Int) < k) := by omega
      refine AW_run CtOK_nil 1000 ?_
      simp (maxSteps := 10000000) (disch := omega) only [go_sem, σpow2, hd', Int.toNat_natCast, reduceIte, seval, -BitVec.isValue, -BitVec.reduceOfNat, -List.reduceReplicate]
def ctPower : Nat × (List AV → R) := (130, A1 fun m : Int => (0 ≤ m ∧ m ≤ 25, .u64 (pw m.toNat)))
theorem ctPower_ok {Ct : List (Nat × (List AV → R))} (h : CtOK Tryz.prog Gs Ct) : CtOK Tryz.prog Gs (ctPower :: Ct) := CtOK_cons (Row1 fun k h => power_fun k h.1 h.2) h
theorem Leaves_fun (l : Lms) (h : lmsSm l) : Fun Tryz.prog Gs 62 [Enc.enc l] (.u64 (pw l.h.toNat)) := by
  refine Fun_cc [ctPower] mo Tryz.func62 (by decide) cc62 rs62 Tryz.ntmps62 (by simp) ?_
  have hct := ctPower_ok CtOK_nil
  obtain ⟨h1, h2, h3, h4⟩ := h
  refine AW_run hct 1000 ?_
  simp (maxSteps := 10000000) (disch := omega) only [go_sem, c62, ctPower, reduceIte, seval, -BitVec.isValue, -BitVec.reduceOfNat, -List.reduceReplicate]
def ctLeaves : Nat × (List AV → R) := (62, A1 fun l : Lms => (lmsSm l, .u64 (pw l.h.toNat)))
theorem ctLeaves_ok {Ct : List (Nat × (List AV → R))} (h : CtOK Tryz.prog Gs Ct) : CtOK Tryz.prog Gs (ctLeaves :: Ct) := CtOK_cons (Row1 fun k h => Leaves_fun k h) h
end Go.Lv
