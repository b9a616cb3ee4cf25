/- A part of the proof (GT). -/
import Derived.Test.YtjehnljbhmjgoaaGreatDoorFD
import Derived.Test.YtjehnljbhmjgoaaGreatDoorGK
set_option linter.all false
namespace Go.Lv
open Go Go.Proofs
set_option linter.unusedSimpArgs false
set_option maxRecDepth 100000
theorem mo : Tryz.prog.follows .mixedOrders = true := by kernel_rfl
end Go.Lv
namespace Go.Lv
open Go Go.Proofs
set_option linter.unusedSimpArgs false
set_option maxRecDepth 100000
def bigC (n : BitVec 64) (k j : Nat) : List (BitVec 8) := (List.range k).map fun i => if k - 1 - i < j then byteAt n (k - 1 - i) else 0
theorem bigC_len (n : BitVec 64) (k j : Nat) : (bigC n k j).length = k := by simp [bigC]
theorem bigC_zero (n : BitVec 64) (k : Nat) : bigC n k 0 = List.replicate k 0 := by
  apply List.ext_getElem
  · simp [bigC]
  · intro i h1 h2; simp [bigC]
theorem bigC_all (n : BitVec 64) (k : Nat) : bigC n k k = bigL n k := by
  apply List.ext_getElem
  · simp [bigC, bigL]
  · intro i h1 h2
    have : i < k := by simpa [bigC] using h1
    simp [bigC, bigL]; omega
theorem bigC_set (n : BitVec 64) (k j : Nat) (h : j < k) : (bigC n k j).set (k - 1 - j) (byteAt n j) = bigC n k (j + 1) := by
  apply List.ext_getElem
  · simp [bigC]
  · intro i h1 h2
    have hi : i < k := by simpa [bigC] using h1
    rw [List.getElem_set]
    by_cases e : k - 1 - j = i
    · have : k - 1 - i = j := by omega
      simp [e, bigC, this]
    · rw [if_neg e]
      have : (k - 1 - i < j + 1) = (k - 1 - i < j) := by apply propext; omega
      simp [bigC, this]
def σbig (n : BitVec 64) (k j : Nat) : St := ⟨[(0, .u64 n), (1, .i k), (5, .sl 0 0 k 1), (10, .i k), (11, .i j)], [(0, ⟨(bigC n k j).map .u8, true⟩)], 1⟩
theorem big_fun (n : BitVec 64) (k : Nat) (hk : k ≤ 1000000) : Fun Tryz.prog Gs 156 [Enc.enc n, Enc.enc (k : Int)] (Enc.ret (bigL n k)) := by
  refine Fun_cc [] mo Tryz.func156 (by decide) cc156 rs156 Tryz.ntmps156 (by simp) ?_
  refine AW_run CtOK_nil 1000 ?_
  simp (maxSteps := 10000000) (disch := omega) only [go_sem, c156, reduceIte, seval, -BitVec.isValue, -BitVec.reduceOfNat, -List.reduceReplicate]
  refine AW_loop (σbig n k) (fun j => j ≤ k) (fun j => k - j) 0 (Nat.zero_le _) (Wk_p [] ?_) fun j hj => ?_
  · simp only [go_sem, σbig, bigC_zero, reduceIte, seval, -BitVec.isValue, -BitVec.reduceOfNat, -List.reduceReplicate]
    try simp
  · refine AW_run CtOK_nil 1000 ?_
    simp (maxSteps := 10000000) (disch := omega) only [go_sem, σbig, reduceIte, seval, -BitVec.isValue, -BitVec.reduceOfNat, -List.reduceReplicate]
    refine run_br (fun hb => ?_) (fun hb => ?_)
    · have hlt : j < k := by simpa using hb
      have hl := bigC_len n k j
      simp (maxSteps := 10000000) (disch := omega) only [go_sem, reduceIte, seval, -BitVec.isValue, -BitVec.reduceOfNat, -List.reduceReplicate]
      have e1 : ((k : Int) - 1 - j).toNat = k - 1 - j := by omega
      have e2 : (8 * (j : Int)).toNat = 8 * j := by omega
      refine ⟨j + 1, by omega, Wk_p [] ?_, by omega⟩
      simp only [go_sem, reduceIte, seval, -BitVec.isValue, -BitVec.reduceOfNat, -List.reduceReplicate]
      simp [e1, e2, ← bigC_set n k j hlt, byteAt]
    · have hge : j = k := by have : ¬ j < k := by simpa using hb
                             omega
      subst hge
      have hl := bigL_len n j
      simp (maxSteps := 10000000) (disch := omega) only [go_sem, bigC_all, reduceIte, seval, -BitVec.isValue, -BitVec.reduceOfNat, -List.reduceReplicate]
      trace_state
      simp [← List.map_take, List.take_of_length_le, hl]
end Go.Lv
namespace Go.Lv
open Go Go.Proofs
set_option linter.unusedSimpArgs false
set_option maxRecDepth 100000
def hashedS (k : Int) : Bool × Int := if k = 3 then (true, 24) else if k = 2 then (true, 32) else if k = 1 then (false, 24) else (false, 32)
theorem hashed_fun (k : Int) : Fun Tryz.prog Gs 187 [Enc.enc k] (.tup [.b (hashedS k).1, .i (hashedS k).2]) := by
  refine Fun_cc [] mo Tryz.func187 (by decide) cc187 rs187 Tryz.ntmps187 (by simp) ?_
  refine AW_run CtOK_nil 1000 ?_
  by_cases h3 : k = 3
  · subst h3; simp (maxSteps := 10000000) (disch := omega) only [go_sem, c187, reduceIte, seval, -BitVec.isValue, -BitVec.reduceOfNat, -List.reduceReplicate]; simp [hashedS]
  · by_cases h2 : k = 2
    · subst h2; simp (maxSteps := 10000000) (disch := omega) only [go_sem, c187, reduceIte, seval, -BitVec.isValue, -BitVec.reduceOfNat, -List.reduceReplicate]; simp [hashedS]
    · by_cases h1 : k = 1
      · subst h1; simp (maxSteps := 10000000) (disch := omega) only [go_sem, c187, reduceIte, seval, -BitVec.isValue, -BitVec.reduceOfNat, -List.reduceReplicate]; simp [hashedS]
      · simp (maxSteps := 10000000) (disch := omega) only [go_sem, c187, reduceIte, seval, -BitVec.isValue, -BitVec.reduceOfNat, -List.reduceReplicate]; simp [hashedS, h1, h2, h3]
def ctHashed : Nat × (List AV → R) := (187, A1 fun k : Int => (True, .tup [.b (hashedS k).1, .i (hashedS k).2]))
theorem ctHashed_ok {Ct : List (Nat × (List AV → R))} (h : CtOK Tryz.prog Gs Ct) : CtOK Tryz.prog Gs (ctHashed :: Ct) := CtOK_cons (Row1 fun k _ => hashed_fun k) h
def otsT (c : BitVec 32) : Option Ots := match c.toNat with
  | 1 => some ⟨1, false, 32, 1, 265, 7⟩
  | 2 => some ⟨2, false, 32, 2, 133, 6⟩
  | 3 => some ⟨3, false, 32, 4, 67, 4⟩
  | 4 => some ⟨4, false, 32, 8, 34, 0⟩
  | 5 => some ⟨5, false, 24, 1, 200, 8⟩
  | 6 => some ⟨6, false, 24, 2, 101, 6⟩
  | 7 => some ⟨7, false, 24, 4, 51, 4⟩
  | 8 => some ⟨8, false, 24, 8, 26, 0⟩
  | 9 => some ⟨9, true, 32, 1, 265, 7⟩
  | 10 => some ⟨10, true, 32, 2, 133, 6⟩
  | 11 => some ⟨11, true, 32, 4, 67, 4⟩
  | 12 => some ⟨12, true, 32, 8, 34, 0⟩
  | 13 => some ⟨13, true, 24, 1, 200, 8⟩
  | 14 => some ⟨14, true, 24, 2, 101, 6⟩
  | 15 => some ⟨15, true, 24, 4, 51, 4⟩
  | 16 => some ⟨16, true, 24, 8, 26, 0⟩
  | _ => none
def ots0 : Ots := ⟨0, false, 0, 0, 0, 0⟩
end Go.Lv
namespace Go.Lv
open Go Go.Proofs
set_option linter.unusedSimpArgs false
set_option maxRecDepth 100000
end Go.Lv
namespace Go.Lv
open Go Go.Proofs
set_option linter.unusedSimpArgs false
set_option maxRecDepth 100000
end Go.Lv
namespace Go.Lv
open Go Go.Proofs
set_option linter.unusedSimpArgs false
set_option maxRecDepth 100000
end Go.Lv
namespace Go.Lv
open Go Go.Proofs
set_option linter.unusedSimpArgs false
set_option maxRecDepth 100000
end Go.Lv
namespace Go.Lv
open Go Go.Proofs
set_option linter.unusedSimpArgs false
set_option maxRecDepth 100000
theorem rbytes_fun (k : Int) (h : 0 ≤ k) : Fun Tryz.prog Gs 142 [Enc.enc k] (.i (if k % 2 = 1 then 24 else 32)) := by
  refine Fun_cc [] mo Tryz.func142 (by decide) cc142 rs142 Tryz.ntmps142 (by simp) ?_
  refine AW_run CtOK_nil 1000 ?_
  by_cases h3 : k % 2 = 1
  · simp (maxSteps := 10000000) (disch := omega) only [go_sem, c142, Int.tmod_eq_emod_of_nonneg, reduceIte, seval, -BitVec.isValue, -BitVec.reduceOfNat, -List.reduceReplicate]
  · simp (maxSteps := 10000000) (disch := omega) only [go_sem, c142, Int.tmod_eq_emod_of_nonneg, reduceIte, seval, -BitVec.isValue, -BitVec.reduceOfNat, -List.reduceReplicate]; simp [h3]
def ctRbytes : Nat × (List AV → R) := (142, A1 fun n : Int => (0 ≤ n, .i (if n % 2 = 1 then 24 else 32)))
theorem ctRbytes_ok {Ct : List (Nat × (List AV → R))} (h : CtOK Tryz.prog Gs Ct) : CtOK Tryz.prog Gs (ctRbytes :: Ct) := CtOK_cons (Row1 fun o h => rbytes_fun o h) h
end Go.Lv
namespace Go.Lv
open Go Go.Proofs
set_option linter.unusedSimpArgs false
set_option maxRecDepth 100000
theorem bg1 (n : BitVec 64) (j : Nat) : ((n >>> (8 * j)) % 256#64).setWidth 8 = byteAt n j := by
  apply BitVec.eq_of_toNat_eq
  simp [byteAt, BitVec.toNat_umod, BitVec.toNat_ushiftRight]
theorem bg2 (n : BitVec 64) (j : Nat) : (n >>> (8 * j)) / 256#64 = n >>> (8 * (j + 1)) := by
  apply BitVec.eq_of_toNat_eq
  simp only [BitVec.toNat_udiv, BitVec.toNat_ushiftRight, Nat.shiftRight_eq_div_pow, Nat.mul_add, Nat.pow_add, Nat.div_div_eq_div_mul]
  rfl
def σrbig (n : BitVec 64) (k j : Nat) : St := ⟨[(0, .u64 (n >>> (8 * j))), (5, .sl 0 0 k 1), (6, .i ((k : Int) - 1 - j))], [(0, ⟨(bigC n k j).map .u8, true⟩)], 1⟩
theorem rBig_fun (n : BitVec 64) (k : Nat) (hk : k ≤ 1000000) : Fun Tryz.prog Gs 106 [Enc.enc n, Enc.enc (k : Int)] (Enc.ret (bigL n k)) := by
  refine Fun_cc [] mo Tryz.func106 (by decide) cc106 rs106 Tryz.ntmps106 (by simp) ?_
  refine AW_run CtOK_nil 1000 ?_
  simp (maxSteps := 10000000) (disch := omega) only [go_sem, c106, reduceIte, seval, -BitVec.isValue, -BitVec.reduceOfNat, -List.reduceReplicate]
  refine AW_loop (σrbig n k) (fun j => j ≤ k) (fun j => k - j) 0 (Nat.zero_le _) (Wk_p [] ?_) fun j hj => ?_
  · simp only [go_sem, σrbig, bigC_zero, reduceIte, seval, -BitVec.isValue, -BitVec.reduceOfNat, -List.reduceReplicate]
    try simp
  · refine AW_run CtOK_nil 1000 ?_
    simp (maxSteps := 10000000) (disch := omega) only [go_sem, σrbig, reduceIte, seval, -BitVec.isValue, -BitVec.reduceOfNat, -List.reduceReplicate]
    refine run_br (fun hb => ?_) (fun hb => ?_)
    · have hlt : j < k := by have := of_decide_eq_true hb; omega
      have hl := bigC_len n k j
      simp (maxSteps := 10000000) (disch := omega) only [go_sem, reduceIte, seval, -BitVec.isValue, -BitVec.reduceOfNat, -List.reduceReplicate]
      have e1 : ((k : Int) - 1 - j).toNat = k - 1 - j := by omega
      refine ⟨j + 1, by omega, Wk_p [] ?_, by omega⟩
      simp only [go_sem, reduceIte, seval, -BitVec.isValue, -BitVec.reduceOfNat, -List.reduceReplicate]
      simp [e1, ← bigC_set n k j hlt, ← bg1, ← bg2]
      try omega
    · have hge : j = k := by have := of_decide_eq_false hb; omega
      subst hge
      have hl := bigL_len n j
      simp (maxSteps := 10000000) (disch := omega) only [go_sem, bigC_all, reduceIte, seval, -BitVec.isValue, -BitVec.reduceOfNat, -List.reduceReplicate]
      simp [← List.map_take, List.take_of_length_le, hl]
def ctRBig : Nat × (List AV → R) := (106, A2 fun (n : BitVec 64) (k : Int) => (0 ≤ k ∧ k ≤ 1000000, Enc.ret (bigL n k.toNat)))
theorem ctRBig_ok {Ct : List (Nat × (List AV → R))} (h : CtOK Tryz.prog Gs Ct) : CtOK Tryz.prog Gs (ctRBig :: Ct) := CtOK_cons (Row2 fun n k h => by
  obtain ⟨k, rfl⟩ := Int.eq_ofNat_of_zero_le h.1
  exact rBig_fun n k (by have := h.2; omega)) h
end Go.Lv
namespace Go.Lv
open Go Go.Proofs
set_option linter.unusedSimpArgs false
set_option maxRecDepth 100000
end Go.Lv
