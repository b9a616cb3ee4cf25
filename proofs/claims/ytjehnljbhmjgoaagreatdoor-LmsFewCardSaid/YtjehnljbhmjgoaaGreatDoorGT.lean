/- A part of the proof (GT). -/
import Derived.Test.YtjehnljbhmjgoaaGreatDoorFD
import Derived.Test.YtjehnljbhmjgoaaGreatDoorGK
set_option linter.all false
namespace Go.Lv
open Go Go.Proofs
set_option linter.unusedSimpArgs false
set_option maxRecDepth 100000
theorem mo : Tryz.prog.follows .mixedOrders = true := by kernel_rfl
theorem pow_le61 {w : Int} (h : w ≤ 61) : 0 < (2 : Int) ^ w.toNat ∧ (2 : Int) ^ w.toNat ≤ 2305843009213693952 := by
  have h1 : (2 : Nat) ^ w.toNat ≤ 2 ^ 61 := Nat.pow_le_pow_right (by omega) (by omega)
  have h2 : (2 : Int) ^ w.toNat = (((2 : Nat) ^ w.toNat : Nat) : Int) := by simp
  have h3 : 0 < (2 : Nat) ^ w.toNat := Nat.pow_pos (by omega)
  rw [h2]; omega
theorem top_fun (o : Ots) (h : 0 ≤ o.w) (h2 : o.w ≤ 61) : Fun Tryz.prog Gs 176 [Enc.enc o] (.i (2 ^ o.w.toNat - 1)) := by
  refine Fun_cc [] mo Tryz.func176 (by decide) cc176 rs176 Tryz.ntmps176 (by simp) ?_
  refine AW_run CtOK_nil 1000 ?_
  obtain ⟨p1, p2⟩ := pow_le61 h2
  simp (maxSteps := 10000000) (disch := omega) only [go_sem, c176, Int.one_mul, reduceIte, seval, -BitVec.isValue, -BitVec.reduceOfNat, -List.reduceReplicate]
end Go.Lv
namespace Go.Lv
open Go Go.Proofs
set_option linter.unusedSimpArgs false
set_option maxRecDepth 100000
def bigC (n : BitVec 64) (k j : Nat) : List (BitVec 8) := (List.range k).map fun i => if k - 1 - i < j then byteAt n (k - 1 - i) else 0
theorem bigC_len (n : BitVec 64) (k j : Nat) : (bigC n k j).length = k := by simp [bigC]
theorem bigC_zero (n : BitVec 64) (k : Nat) : bigC n k 0 = List.replicate k 0 := by
  apply List.ext_getElem
  · simp [bigC]
  · intro i h1 h2; simp [bigC]
theorem bigC_all (n : BitVec 64) (k : Nat) : bigC n k k = bigL n k := by
  apply List.ext_getElem
  · simp [bigC, bigL]
  · intro i h1 h2
    have : i < k := by simpa [bigC] using h1
    simp [bigC, bigL]; omega
theorem bigC_set (n : BitVec 64) (k j : Nat) (h : j < k) : (bigC n k j).set (k - 1 - j) (byteAt n j) = bigC n k (j + 1) := by
  apply List.ext_getElem
  · simp [bigC]
  · intro i h1 h2
    have hi : i < k := by simpa [bigC] using h1
    rw [List.getElem_set]
    by_cases e : k - 1 - j = i
    · have : k - 1 - i = j := by omega
      simp [e, bigC, this]
    · rw [if_neg e]
      have : (k - 1 - i < j + 1) = (k - 1 - i < j) := by apply propext; omega
      simp [bigC, this]
def σbig (n : BitVec 64) (k j : Nat) : St := ⟨[(0, .u64 n), (1, .i k), (5, .sl 0 0 k 1), (10, .i k), (11, .i j)], [(0, ⟨(bigC n k j).map .u8, true⟩)], 1⟩
theorem big_fun (n : BitVec 64) (k : Nat) (hk : k ≤ 1000000) : Fun Tryz.prog Gs 156 [Enc.enc n, Enc.enc (k : Int)] (Enc.ret (bigL n k)) := by
  refine Fun_cc [] mo Tryz.func156 (by decide) cc156 rs156 Tryz.ntmps156 (by simp) ?_
  refine AW_run CtOK_nil 1000 ?_
  simp (maxSteps := 10000000) (disch := omega) only [go_sem, c156, reduceIte, seval, -BitVec.isValue, -BitVec.reduceOfNat, -List.reduceReplicate]
  refine AW_loop (σbig n k) (fun j => j ≤ k) (fun j => k - j) 0 (Nat.zero_le _) (Wk_p [] ?_) fun j hj => ?_
  · simp only [go_sem, σbig, bigC_zero, reduceIte, seval, -BitVec.isValue, -BitVec.reduceOfNat, -List.reduceReplicate]
    try simp
  · refine AW_run CtOK_nil 1000 ?_
    simp (maxSteps := 10000000) (disch := omega) only [go_sem, σbig, reduceIte, seval, -BitVec.isValue, -BitVec.reduceOfNat, -List.reduceReplicate]
    refine run_br (fun hb => ?_) (fun hb => ?_)
    · have hlt : j < k := by simpa using hb
      have hl := bigC_len n k j
      simp (maxSteps := 10000000) (disch := omega) only [go_sem, reduceIte, seval, -BitVec.isValue, -BitVec.reduceOfNat, -List.reduceReplicate]
      have e1 : ((k : Int) - 1 - j).toNat = k - 1 - j := by omega
      have e2 : (8 * (j : Int)).toNat = 8 * j := by omega
      refine ⟨j + 1, by omega, Wk_p [] ?_, by omega⟩
      simp only [go_sem, reduceIte, seval, -BitVec.isValue, -BitVec.reduceOfNat, -List.reduceReplicate]
      simp [e1, e2, ← bigC_set n k j hlt, byteAt]
    · have hge : j = k := by have : ¬ j < k := by simpa using hb
                             omega
      subst hge
      have hl := bigL_len n j
      simp (maxSteps := 10000000) (disch := omega) only [go_sem, bigC_all, reduceIte, seval, -BitVec.isValue, -BitVec.reduceOfNat, -List.reduceReplicate]
      trace_state
      simp [← List.map_take, List.take_of_length_le, hl]
theorem U16_fun (n : BitVec 16) : Fun Tryz.prog Gs 179 [Enc.enc n] (Enc.ret (bigL (n.setWidth 64) 2)) := by
  refine Fun_cc [(156, A2 fun (n : BitVec 64) (k : Int) => (0 ≤ k ∧ k ≤ 1000000, Enc.ret (bigL n k.toNat)))] mo Tryz.func179 (by decide) cc179 rs179 Tryz.ntmps179 (by simp) ?_
  refine AW_run (CtOK_cons (Row2 fun n k h => ?_) CtOK_nil) 1000 ?_
  · obtain ⟨k, rfl⟩ := Int.eq_ofNat_of_zero_le h.1
    exact big_fun n k (by have := h.2; omega)
  · simp (maxSteps := 10000000) (disch := omega) only [go_sem, c179, reduceIte, seval, -BitVec.isValue, -BitVec.reduceOfNat, -List.reduceReplicate]
end Go.Lv
namespace Go.Lv
open Go Go.Proofs
set_option linter.unusedSimpArgs false
set_option maxRecDepth 100000
def hashedS (k : Int) : Bool × Int := if k = 3 then (true, 24) else if k = 2 then (true, 32) else if k = 1 then (false, 24) else (false, 32)
theorem hashed_fun (k : Int) : Fun Tryz.prog Gs 187 [Enc.enc k] (.tup [.b (hashedS k).1, .i (hashedS k).2]) := by
  refine Fun_cc [] mo Tryz.func187 (by decide) cc187 rs187 Tryz.ntmps187 (by simp) ?_
  refine AW_run CtOK_nil 1000 ?_
  by_cases h3 : k = 3
  · subst h3; simp (maxSteps := 10000000) (disch := omega) only [go_sem, c187, reduceIte, seval, -BitVec.isValue, -BitVec.reduceOfNat, -List.reduceReplicate]; simp [hashedS]
  · by_cases h2 : k = 2
    · subst h2; simp (maxSteps := 10000000) (disch := omega) only [go_sem, c187, reduceIte, seval, -BitVec.isValue, -BitVec.reduceOfNat, -List.reduceReplicate]; simp [hashedS]
    · by_cases h1 : k = 1
      · subst h1; simp (maxSteps := 10000000) (disch := omega) only [go_sem, c187, reduceIte, seval, -BitVec.isValue, -BitVec.reduceOfNat, -List.reduceReplicate]; simp [hashedS]
      · simp (maxSteps := 10000000) (disch := omega) only [go_sem, c187, reduceIte, seval, -BitVec.isValue, -BitVec.reduceOfNat, -List.reduceReplicate]; simp [hashedS, h1, h2, h3]
def ctHashed : Nat × (List AV → R) := (187, A1 fun k : Int => (True, .tup [.b (hashedS k).1, .i (hashedS k).2]))
theorem ctHashed_ok {Ct : List (Nat × (List AV → R))} (h : CtOK Tryz.prog Gs Ct) : CtOK Tryz.prog Gs (ctHashed :: Ct) := CtOK_cons (Row1 fun k _ => hashed_fun k) h
def otsT (c : BitVec 32) : Option Ots := match c.toNat with
  | 1 => some ⟨1, false, 32, 1, 265, 7⟩
  | 2 => some ⟨2, false, 32, 2, 133, 6⟩
  | 3 => some ⟨3, false, 32, 4, 67, 4⟩
  | 4 => some ⟨4, false, 32, 8, 34, 0⟩
  | 5 => some ⟨5, false, 24, 1, 200, 8⟩
  | 6 => some ⟨6, false, 24, 2, 101, 6⟩
  | 7 => some ⟨7, false, 24, 4, 51, 4⟩
  | 8 => some ⟨8, false, 24, 8, 26, 0⟩
  | 9 => some ⟨9, true, 32, 1, 265, 7⟩
  | 10 => some ⟨10, true, 32, 2, 133, 6⟩
  | 11 => some ⟨11, true, 32, 4, 67, 4⟩
  | 12 => some ⟨12, true, 32, 8, 34, 0⟩
  | 13 => some ⟨13, true, 24, 1, 200, 8⟩
  | 14 => some ⟨14, true, 24, 2, 101, 6⟩
  | 15 => some ⟨15, true, 24, 4, 51, 4⟩
  | 16 => some ⟨16, true, 24, 8, 26, 0⟩
  | _ => none
def ots0 : Ots := ⟨0, false, 0, 0, 0, 0⟩
def otsR (c : BitVec 32) : AV := match otsT c with
  | some o => .tup [Enc.enc o, .i 0]
  | none => .tup [Enc.enc ots0, .i 60]
theorem Ots_1 : Fun Tryz.prog Gs 138 [Enc.enc (1 : BitVec 32)] (.tup [Enc.enc (⟨1, false, 32, 1, 265, 7⟩ : Ots), .i 0]) := by
  refine Fun_cc [ctHashed] mo Tryz.func138 (by decide) cc138 rs138 Tryz.ntmps138 (by simp) ?_
  refine AW_run (ctHashed_ok CtOK_nil) 1000 ?_
  simp (maxSteps := 10000000) (disch := omega) only [go_sem, c138, ctHashed, hashedS, Int.cast_ofNat_Int, reduceIte, seval, -BitVec.isValue, -BitVec.reduceOfNat, -List.reduceReplicate]
  refine AW_unr 20 ?_
  repeat (refine Unr_run (ctHashed_ok CtOK_nil) 1000 ?_; simp (maxSteps := 10000000) (disch := omega) only [go_sem, Int.cast_ofNat_Int, reduceIte, seval, -BitVec.isValue, -BitVec.reduceOfNat, -List.reduceReplicate])
theorem Ots_2 : Fun Tryz.prog Gs 138 [Enc.enc (2 : BitVec 32)] (.tup [Enc.enc (⟨2, false, 32, 2, 133, 6⟩ : Ots), .i 0]) := by
  refine Fun_cc [ctHashed] mo Tryz.func138 (by decide) cc138 rs138 Tryz.ntmps138 (by simp) ?_
  refine AW_run (ctHashed_ok CtOK_nil) 1000 ?_
  simp (maxSteps := 10000000) (disch := omega) only [go_sem, c138, ctHashed, hashedS, Int.cast_ofNat_Int, reduceIte, seval, -BitVec.isValue, -BitVec.reduceOfNat, -List.reduceReplicate]
  refine AW_unr 20 ?_
  repeat (refine Unr_run (ctHashed_ok CtOK_nil) 1000 ?_; simp (maxSteps := 10000000) (disch := omega) only [go_sem, Int.cast_ofNat_Int, reduceIte, seval, -BitVec.isValue, -BitVec.reduceOfNat, -List.reduceReplicate])
theorem Ots_3 : Fun Tryz.prog Gs 138 [Enc.enc (3 : BitVec 32)] (.tup [Enc.enc (⟨3, false, 32, 4, 67, 4⟩ : Ots), .i 0]) := by
  refine Fun_cc [ctHashed] mo Tryz.func138 (by decide) cc138 rs138 Tryz.ntmps138 (by simp) ?_
  refine AW_run (ctHashed_ok CtOK_nil) 1000 ?_
  simp (maxSteps := 10000000) (disch := omega) only [go_sem, c138, ctHashed, hashedS, Int.cast_ofNat_Int, reduceIte, seval, -BitVec.isValue, -BitVec.reduceOfNat, -List.reduceReplicate]
  refine AW_unr 20 ?_
  repeat (refine Unr_run (ctHashed_ok CtOK_nil) 1000 ?_; simp (maxSteps := 10000000) (disch := omega) only [go_sem, Int.cast_ofNat_Int, reduceIte, seval, -BitVec.isValue, -BitVec.reduceOfNat, -List.reduceReplicate])
theorem Ots_4 : Fun Tryz.prog Gs 138 [Enc.enc (4 : BitVec 32)] (.tup [Enc.enc (⟨4, false, 32, 8, 34, 0⟩ : Ots), .i 0]) := by
  refine Fun_cc [ctHashed] mo Tryz.func138 (by decide) cc138 rs138 Tryz.ntmps138 (by simp) ?_
  refine AW_run (ctHashed_ok CtOK_nil) 1000 ?_
  simp (maxSteps := 10000000) (disch := omega) only [go_sem, c138, ctHashed, hashedS, Int.cast_ofNat_Int, reduceIte, seval, -BitVec.isValue, -BitVec.reduceOfNat, -List.reduceReplicate]
  refine AW_unr 20 ?_
  repeat (refine Unr_run (ctHashed_ok CtOK_nil) 1000 ?_; simp (maxSteps := 10000000) (disch := omega) only [go_sem, Int.cast_ofNat_Int, reduceIte, seval, -BitVec.isValue, -BitVec.reduceOfNat, -List.reduceReplicate])
theorem Ots_5 : Fun Tryz.prog Gs 138 [Enc.enc (5 : BitVec 32)] (.tup [Enc.enc (⟨5, false, 24, 1, 200, 8⟩ : Ots), .i 0]) := by
  refine Fun_cc [ctHashed] mo Tryz.func138 (by decide) cc138 rs138 Tryz.ntmps138 (by simp) ?_
  refine AW_run (ctHashed_ok CtOK_nil) 1000 ?_
  simp (maxSteps := 10000000) (disch := omega) only [go_sem, c138, ctHashed, hashedS, Int.cast_ofNat_Int, reduceIte, seval, -BitVec.isValue, -BitVec.reduceOfNat, -List.reduceReplicate]
  refine AW_unr 20 ?_
  repeat (refine Unr_run (ctHashed_ok CtOK_nil) 1000 ?_; simp (maxSteps := 10000000) (disch := omega) only [go_sem, Int.cast_ofNat_Int, reduceIte, seval, -BitVec.isValue, -BitVec.reduceOfNat, -List.reduceReplicate])
theorem Ots_6 : Fun Tryz.prog Gs 138 [Enc.enc (6 : BitVec 32)] (.tup [Enc.enc (⟨6, false, 24, 2, 101, 6⟩ : Ots), .i 0]) := by
  refine Fun_cc [ctHashed] mo Tryz.func138 (by decide) cc138 rs138 Tryz.ntmps138 (by simp) ?_
  refine AW_run (ctHashed_ok CtOK_nil) 1000 ?_
  simp (maxSteps := 10000000) (disch := omega) only [go_sem, c138, ctHashed, hashedS, Int.cast_ofNat_Int, reduceIte, seval, -BitVec.isValue, -BitVec.reduceOfNat, -List.reduceReplicate]
  refine AW_unr 20 ?_
  repeat (refine Unr_run (ctHashed_ok CtOK_nil) 1000 ?_; simp (maxSteps := 10000000) (disch := omega) only [go_sem, Int.cast_ofNat_Int, reduceIte, seval, -BitVec.isValue, -BitVec.reduceOfNat, -List.reduceReplicate])
theorem Ots_7 : Fun Tryz.prog Gs 138 [Enc.enc (7 : BitVec 32)] (.tup [Enc.enc (⟨7, false, 24, 4, 51, 4⟩ : Ots), .i 0]) := by
  refine Fun_cc [ctHashed] mo Tryz.func138 (by decide) cc138 rs138 Tryz.ntmps138 (by simp) ?_
  refine AW_run (ctHashed_ok CtOK_nil) 1000 ?_
  simp (maxSteps := 10000000) (disch := omega) only [go_sem, c138, ctHashed, hashedS, Int.cast_ofNat_Int, reduceIte, seval, -BitVec.isValue, -BitVec.reduceOfNat, -List.reduceReplicate]
  refine AW_unr 20 ?_
  repeat (refine Unr_run (ctHashed_ok CtOK_nil) 1000 ?_; simp (maxSteps := 10000000) (disch := omega) only [go_sem, Int.cast_ofNat_Int, reduceIte, seval, -BitVec.isValue, -BitVec.reduceOfNat, -List.reduceReplicate])
theorem Ots_8 : Fun Tryz.prog Gs 138 [Enc.enc (8 : BitVec 32)] (.tup [Enc.enc (⟨8, false, 24, 8, 26, 0⟩ : Ots), .i 0]) := by
  refine Fun_cc [ctHashed] mo Tryz.func138 (by decide) cc138 rs138 Tryz.ntmps138 (by simp) ?_
  refine AW_run (ctHashed_ok CtOK_nil) 1000 ?_
  simp (maxSteps := 10000000) (disch := omega) only [go_sem, c138, ctHashed, hashedS, Int.cast_ofNat_Int, reduceIte, seval, -BitVec.isValue, -BitVec.reduceOfNat, -List.reduceReplicate]
  refine AW_unr 20 ?_
  repeat (refine Unr_run (ctHashed_ok CtOK_nil) 1000 ?_; simp (maxSteps := 10000000) (disch := omega) only [go_sem, Int.cast_ofNat_Int, reduceIte, seval, -BitVec.isValue, -BitVec.reduceOfNat, -List.reduceReplicate])
theorem Ots_9 : Fun Tryz.prog Gs 138 [Enc.enc (9 : BitVec 32)] (.tup [Enc.enc (⟨9, true, 32, 1, 265, 7⟩ : Ots), .i 0]) := by
  refine Fun_cc [ctHashed] mo Tryz.func138 (by decide) cc138 rs138 Tryz.ntmps138 (by simp) ?_
  refine AW_run (ctHashed_ok CtOK_nil) 1000 ?_
  simp (maxSteps := 10000000) (disch := omega) only [go_sem, c138, ctHashed, hashedS, Int.cast_ofNat_Int, reduceIte, seval, -BitVec.isValue, -BitVec.reduceOfNat, -List.reduceReplicate]
  refine AW_unr 20 ?_
  repeat (refine Unr_run (ctHashed_ok CtOK_nil) 1000 ?_; simp (maxSteps := 10000000) (disch := omega) only [go_sem, Int.cast_ofNat_Int, reduceIte, seval, -BitVec.isValue, -BitVec.reduceOfNat, -List.reduceReplicate])
theorem Ots_10 : Fun Tryz.prog Gs 138 [Enc.enc (10 : BitVec 32)] (.tup [Enc.enc (⟨10, true, 32, 2, 133, 6⟩ : Ots), .i 0]) := by
  refine Fun_cc [ctHashed] mo Tryz.func138 (by decide) cc138 rs138 Tryz.ntmps138 (by simp) ?_
  refine AW_run (ctHashed_ok CtOK_nil) 1000 ?_
  simp (maxSteps := 10000000) (disch := omega) only [go_sem, c138, ctHashed, hashedS, Int.cast_ofNat_Int, reduceIte, seval, -BitVec.isValue, -BitVec.reduceOfNat, -List.reduceReplicate]
  refine AW_unr 20 ?_
  repeat (refine Unr_run (ctHashed_ok CtOK_nil) 1000 ?_; simp (maxSteps := 10000000) (disch := omega) only [go_sem, Int.cast_ofNat_Int, reduceIte, seval, -BitVec.isValue, -BitVec.reduceOfNat, -List.reduceReplicate])
theorem Ots_11 : Fun Tryz.prog Gs 138 [Enc.enc (11 : BitVec 32)] (.tup [Enc.enc (⟨11, true, 32, 4, 67, 4⟩ : Ots), .i 0]) := by
  refine Fun_cc [ctHashed] mo Tryz.func138 (by decide) cc138 rs138 Tryz.ntmps138 (by simp) ?_
  refine AW_run (ctHashed_ok CtOK_nil) 1000 ?_
  simp (maxSteps := 10000000) (disch := omega) only [go_sem, c138, ctHashed, hashedS, Int.cast_ofNat_Int, reduceIte, seval, -BitVec.isValue, -BitVec.reduceOfNat, -List.reduceReplicate]
  refine AW_unr 20 ?_
  repeat (refine Unr_run (ctHashed_ok CtOK_nil) 1000 ?_; simp (maxSteps := 10000000) (disch := omega) only [go_sem, Int.cast_ofNat_Int, reduceIte, seval, -BitVec.isValue, -BitVec.reduceOfNat, -List.reduceReplicate])
theorem Ots_12 : Fun Tryz.prog Gs 138 [Enc.enc (12 : BitVec 32)] (.tup [Enc.enc (⟨12, true, 32, 8, 34, 0⟩ : Ots), .i 0]) := by
  refine Fun_cc [ctHashed] mo Tryz.func138 (by decide) cc138 rs138 Tryz.ntmps138 (by simp) ?_
  refine AW_run (ctHashed_ok CtOK_nil) 1000 ?_
  simp (maxSteps := 10000000) (disch := omega) only [go_sem, c138, ctHashed, hashedS, Int.cast_ofNat_Int, reduceIte, seval, -BitVec.isValue, -BitVec.reduceOfNat, -List.reduceReplicate]
  refine AW_unr 20 ?_
  repeat (refine Unr_run (ctHashed_ok CtOK_nil) 1000 ?_; simp (maxSteps := 10000000) (disch := omega) only [go_sem, Int.cast_ofNat_Int, reduceIte, seval, -BitVec.isValue, -BitVec.reduceOfNat, -List.reduceReplicate])
theorem Ots_13 : Fun Tryz.prog Gs 138 [Enc.enc (13 : BitVec 32)] (.tup [Enc.enc (⟨13, true, 24, 1, 200, 8⟩ : Ots), .i 0]) := by
  refine Fun_cc [ctHashed] mo Tryz.func138 (by decide) cc138 rs138 Tryz.ntmps138 (by simp) ?_
  refine AW_run (ctHashed_ok CtOK_nil) 1000 ?_
  simp (maxSteps := 10000000) (disch := omega) only [go_sem, c138, ctHashed, hashedS, Int.cast_ofNat_Int, reduceIte, seval, -BitVec.isValue, -BitVec.reduceOfNat, -List.reduceReplicate]
  refine AW_unr 20 ?_
  repeat (refine Unr_run (ctHashed_ok CtOK_nil) 1000 ?_; simp (maxSteps := 10000000) (disch := omega) only [go_sem, Int.cast_ofNat_Int, reduceIte, seval, -BitVec.isValue, -BitVec.reduceOfNat, -List.reduceReplicate])
theorem Ots_14 : Fun Tryz.prog Gs 138 [Enc.enc (14 : BitVec 32)] (.tup [Enc.enc (⟨14, true, 24, 2, 101, 6⟩ : Ots), .i 0]) := by
  refine Fun_cc [ctHashed] mo Tryz.func138 (by decide) cc138 rs138 Tryz.ntmps138 (by simp) ?_
  refine AW_run (ctHashed_ok CtOK_nil) 1000 ?_
  simp (maxSteps := 10000000) (disch := omega) only [go_sem, c138, ctHashed, hashedS, Int.cast_ofNat_Int, reduceIte, seval, -BitVec.isValue, -BitVec.reduceOfNat, -List.reduceReplicate]
  refine AW_unr 20 ?_
  repeat (refine Unr_run (ctHashed_ok CtOK_nil) 1000 ?_; simp (maxSteps := 10000000) (disch := omega) only [go_sem, Int.cast_ofNat_Int, reduceIte, seval, -BitVec.isValue, -BitVec.reduceOfNat, -List.reduceReplicate])
theorem Ots_15 : Fun Tryz.prog Gs 138 [Enc.enc (15 : BitVec 32)] (.tup [Enc.enc (⟨15, true, 24, 4, 51, 4⟩ : Ots), .i 0]) := by
  refine Fun_cc [ctHashed] mo Tryz.func138 (by decide) cc138 rs138 Tryz.ntmps138 (by simp) ?_
  refine AW_run (ctHashed_ok CtOK_nil) 1000 ?_
  simp (maxSteps := 10000000) (disch := omega) only [go_sem, c138, ctHashed, hashedS, Int.cast_ofNat_Int, reduceIte, seval, -BitVec.isValue, -BitVec.reduceOfNat, -List.reduceReplicate]
  refine AW_unr 20 ?_
  repeat (refine Unr_run (ctHashed_ok CtOK_nil) 1000 ?_; simp (maxSteps := 10000000) (disch := omega) only [go_sem, Int.cast_ofNat_Int, reduceIte, seval, -BitVec.isValue, -BitVec.reduceOfNat, -List.reduceReplicate])
theorem Ots_16 : Fun Tryz.prog Gs 138 [Enc.enc (16 : BitVec 32)] (.tup [Enc.enc (⟨16, true, 24, 8, 26, 0⟩ : Ots), .i 0]) := by
  refine Fun_cc [ctHashed] mo Tryz.func138 (by decide) cc138 rs138 Tryz.ntmps138 (by simp) ?_
  refine AW_run (ctHashed_ok CtOK_nil) 1000 ?_
  simp (maxSteps := 10000000) (disch := omega) only [go_sem, c138, ctHashed, hashedS, Int.cast_ofNat_Int, reduceIte, seval, -BitVec.isValue, -BitVec.reduceOfNat, -List.reduceReplicate]
  refine AW_unr 20 ?_
  repeat (refine Unr_run (ctHashed_ok CtOK_nil) 1000 ?_; simp (maxSteps := 10000000) (disch := omega) only [go_sem, Int.cast_ofNat_Int, reduceIte, seval, -BitVec.isValue, -BitVec.reduceOfNat, -List.reduceReplicate])
end Go.Lv
namespace Go.Lv
open Go Go.Proofs
set_option linter.unusedSimpArgs false
set_option maxRecDepth 100000
theorem Ots_err (c : BitVec 32) (h : c = 0 ∨ 16 < c.toNat) : Fun Tryz.prog Gs 138 [Enc.enc c] (.tup [Enc.enc ots0, .i 60]) := by
  refine Fun_cc [ctHashed] mo Tryz.func138 (by decide) cc138 rs138 Tryz.ntmps138 (by simp) ?_
  refine AW_run (ctHashed_ok CtOK_nil) 1000 ?_
  rcases h with rfl | h
  · simp (maxSteps := 10000000) (disch := omega) only [go_sem, c138, ots0, reduceIte, seval, -BitVec.isValue, -BitVec.reduceOfNat, -List.reduceReplicate]
  · have h1 : ¬ (c < 1#32) := by rw [BitVec.lt_def]; simp; omega
    have h2 : (16#32 < c) := by rw [BitVec.lt_def]; simpa using h
    simp (maxSteps := 10000000) (disch := omega) only [go_sem, c138, ots0, h1, h2, reduceIte, seval, -BitVec.isValue, -BitVec.reduceOfNat, -List.reduceReplicate]
theorem Ots_fun (c : BitVec 32) : Fun Tryz.prog Gs 138 [Enc.enc c] (otsR c) := by
  by_cases h : c = 0 ∨ 16 < c.toNat
  · have : otsT c = none := by
      unfold otsT
      rcases h with rfl | h
      · rfl
      · split <;> first | rfl | omega
    rw [otsR, this]; exact Ots_err c h
  · have h0 : c.toNat ≠ 0 := fun e => h (.inl (BitVec.eq_of_toNat_eq (by simpa using e)))
    have hc : c = BitVec.ofNat 32 c.toNat := by simp
    generalize c.toNat = k at *
    subst hc
    have hk : 1 ≤ k ∧ k ≤ 16 := by omega
    clear h h0
    obtain ⟨a, b⟩ := hk
    match k, a, b with
    | 1, _, _ => exact Ots_1
    | 2, _, _ => exact Ots_2
    | 3, _, _ => exact Ots_3
    | 4, _, _ => exact Ots_4
    | 5, _, _ => exact Ots_5
    | 6, _, _ => exact Ots_6
    | 7, _, _ => exact Ots_7
    | 8, _, _ => exact Ots_8
    | 9, _, _ => exact Ots_9
    | 10, _, _ => exact Ots_10
    | 11, _, _ => exact Ots_11
    | 12, _, _ => exact Ots_12
    | 13, _, _ => exact Ots_13
    | 14, _, _ => exact Ots_14
    | 15, _, _ => exact Ots_15
    | 16, _, _ => exact Ots_16
    | k + 17, _, hb => omega
end Go.Lv
namespace Go.Lv
open Go Go.Proofs
set_option linter.unusedSimpArgs false
set_option maxRecDepth 100000
def ctOts : Nat × (List AV → R) := (138, A1 fun c : BitVec 32 => (True, otsR c))
theorem ctOts_ok {Ct : List (Nat × (List AV → R))} (h : CtOK Tryz.prog Gs Ct) : CtOK Tryz.prog Gs (ctOts :: Ct) := CtOK_cons (Row1 fun k _ => Ots_fun k) h
def otsMay (o : Ots) : Int := if otsT o.code = some o then 0 else 60
theorem may_fun (o : Ots) : Fun Tryz.prog Gs 175 [Enc.enc o] (.i (otsMay o)) := by
  refine Fun_cc [ctOts] mo Tryz.func175 (by decide) cc175 rs175 Tryz.ntmps175 (by simp) ?_
  refine AW_run (ctOts_ok CtOK_nil) 1000 ?_
  cases h : otsT o.code with
  | none =>
    simp (maxSteps := 10000000) (disch := omega) only [go_sem, c175, ctOts, otsR, h, ots0, reduceIte, seval, -BitVec.isValue, -BitVec.reduceOfNat, -List.reduceReplicate]
    simp [otsMay, h]
  | some x =>
    by_cases e : x = o
    · subst e
      simp (maxSteps := 10000000) (disch := omega) only [go_sem, c175, ctOts, otsR, h, eqL, eq1, reduceIte, seval, -BitVec.isValue, -BitVec.reduceOfNat, -List.reduceReplicate]
      simp [otsMay, h]
    · simp (maxSteps := 10000000) (disch := omega) only [go_sem, c175, ctOts, otsR, h, eqL, eq1, reduceIte, seval, -BitVec.isValue, -BitVec.reduceOfNat, -List.reduceReplicate]
      refine run_br (fun hb => ?_) (fun hb => (e (by cases x; cases o; simp at hb; simp [hb])).elim)
      simp (maxSteps := 10000000) (disch := omega) only [go_sem, reduceIte, seval, -BitVec.isValue, -BitVec.reduceOfNat, -List.reduceReplicate]
      simp [otsMay, h, e]
end Go.Lv
namespace Go.Lv
open Go Go.Proofs
set_option linter.unusedSimpArgs false
set_option maxRecDepth 100000
def dig (w : Nat) (x : BitVec 8) (k : Nat) : Int := ((x.toNat / 2 ^ (8 - w * (k + 1))) &&& (2 ^ w - 1) : Nat)
def digs (w : Nat) (x : BitVec 8) (k : Nat) : List Int := (List.range k).map (dig w x)
def cutAll (w : Nat) (b : List (BitVec 8)) : List Int := b.flatMap fun x => digs w x (8 / w)
def cutS (w : Nat) (b : List (BitVec 8)) (most : Int) : List Int := (cutAll w b).take most.toNat
def wOK (w : Int) : Prop := w = 1 ∨ w = 2 ∨ w = 4 ∨ w = 8
def ctTop : Nat × (List AV → R) := (176, A1 fun o : Ots => (0 ≤ o.w ∧ o.w ≤ 61, .i (2 ^ o.w.toNat - 1)))
theorem ctTop_ok {Ct : List (Nat × (List AV → R))} (h : CtOK Tryz.prog Gs Ct) : CtOK Tryz.prog Gs (ctTop :: Ct) := CtOK_cons (Row1 fun o h => top_fun o h.1 h.2) h
def σcut (o : Ots) (b : List (BitVec 8)) (most : Int) (i : Nat) : St :=
  ⟨[(1, .ros false b.length (b.map .u8)), (2, .i most), (3, .ptr 0 0), (7, .sl 1 0 (cutS o.w.toNat (b.take i) most).length 1), (8, .i (8 / o.w)), (14, .ros false b.length (b.map .u8)), (15, .i b.length), (16, .i i)],
   [(0, ⟨[.u32 o.code, .b o.shake, .i o.n, .i o.w, .i o.p, .i o.ls], true⟩), (1, ⟨(cutS o.w.toNat (b.take i) most).map .i, true⟩)], 2⟩
def cutM (w : Nat) (b : List (BitVec 8)) (most : Int) (i k : Nat) : List Int := (cutAll w (b.take i) ++ digs w (b.getD i 0) k).take most.toNat
def σcut2 (o : Ots) (b : List (BitVec 8)) (most : Int) (i k : Nat) : St :=
  ⟨[(1, .ros false b.length (b.map .u8)), (2, .i most), (3, .ptr 0 0), (7, .sl 1 0 (cutM o.w.toNat b most i k).length 1), (8, .i (8 / o.w)), (9, .i i), (14, .ros false b.length (b.map .u8)), (15, .i b.length), (16, .i i), (19, .i (8 / o.w)), (20, .i k)],
   [(0, ⟨[.u32 o.code, .b o.shake, .i o.n, .i o.w, .i o.p, .i o.ls], true⟩), (1, ⟨(cutM o.w.toNat b most i k).map .i, true⟩)], 2⟩
theorem cutM_zero (w : Nat) (b : List (BitVec 8)) (most : Int) (i : Nat) : cutM w b most i 0 = cutS w (b.take i) most := by simp [cutM, cutS, digs]
theorem cutM_all (w : Nat) (b : List (BitVec 8)) (most : Int) (i : Nat) (h : i < b.length) : cutM w b most i (8 / w) = cutS w (b.take (i + 1)) most := by
  rw [cutM, cutS, List.take_succ_eq_append_getElem h]
  simp only [cutAll, List.flatMap_append, List.flatMap_cons, List.flatMap_nil, List.append_nil]
  simp [List.getD_eq_getElem?_getD, h]
theorem cutM_more (w : Nat) (b : List (BitVec 8)) (most : Int) (i k : Nat) (h : (cutM w b most i k).length < most) : cutM w b most i (k + 1) = cutM w b most i k ++ [dig w (b.getD i 0) k] := by
  simp only [cutM, List.length_take] at h ⊢
  have hl : (cutAll w (b.take i) ++ digs w (b.getD i 0) k).length < most.toNat := by omega
  have e : digs w (b.getD i 0) (k + 1) = digs w (b.getD i 0) k ++ [dig w (b.getD i 0) k] := by simp [digs, List.range_succ]
  generalize hA : cutAll w (b.take i) ++ digs w (b.getD i 0) k = A at *
  have t1 : (A ++ [dig w (b.getD i 0) k]).take most.toNat = A ++ [dig w (b.getD i 0) k] := List.take_of_length_le (by simp; omega)
  have t2 : A.take most.toNat = A := List.take_of_length_le (by omega)
  rw [e, ← List.append_assoc, hA, t1, t2]
theorem cutM_same (w : Nat) (b : List (BitVec 8)) (most : Int) (i k : Nat) (h : ¬ (cutM w b most i k).length < most) : cutM w b most i (k + 1) = cutM w b most i k := by
  simp only [cutM, List.length_take] at h ⊢
  have e : digs w (b.getD i 0) (k + 1) = digs w (b.getD i 0) k ++ [dig w (b.getD i 0) k] := by simp [digs, List.range_succ]
  rw [e, ← List.append_assoc, List.take_append_of_le_length (by omega)]
theorem cutAll_len (w : Nat) : ∀ (b : List (BitVec 8)), (cutAll w b).length ≤ 8 * b.length
  | [] => by simp [cutAll]
  | x :: b => by
    have ih := cutAll_len w b
    have h := Nat.div_le_self 8 w
    simp only [cutAll, List.flatMap_cons, List.length_append, List.length_cons, digs, List.length_map, List.length_range] at ih ⊢
    omega
theorem cutM_len (w : Nat) (b : List (BitVec 8)) (most : Int) (i k : Nat) : (cutM w b most i k).length ≤ 8 * b.length + k := by
  have h := cutAll_len w (b.take i)
  simp only [cutM, List.length_take, List.length_append, digs, List.length_map, List.length_range] at h ⊢
  omega
theorem bits8 {w : Int} (hw : wOK w) : (8 / w = ((8 / w.toNat : Nat) : Int)) ∧ ∀ k : Nat, k < 8 / w.toNat → 0 ≤ w * ((k : Int) + 1) ∧ w * ((k : Int) + 1) ≤ 8 := by
  rcases hw with rfl | rfl | rfl | rfl
  · exact ⟨rfl, fun k hk => by have : k < 8 := hk; omega⟩
  · exact ⟨rfl, fun k hk => by have : k < 4 := hk; omega⟩
  · exact ⟨rfl, fun k hk => by have : k < 2 := hk; omega⟩
  · exact ⟨rfl, fun k hk => by have : k < 1 := hk; omega⟩
theorem dig_eq {w : Int} (hw : wOK w) (x : BitVec 8) (k : Nat) (hk : k < 8 / w.toNat) :
    (((((x.toNat : Int) / 2 ^ (8 - w * ((k : Int) + 1)).toNat).toNat &&& ((2 : Int) ^ w.toNat - 1).toNat : Nat)) : Int) = dig w.toNat x k := by
  have e : ∀ n : Nat, ((x.toNat : Int) / 2 ^ n).toNat = x.toNat / 2 ^ n := fun n => by
    have : ((x.toNat : Int) / 2 ^ n) = ((x.toNat / 2 ^ n : Nat) : Int) := by simp
    rw [this, Int.toNat_natCast]
  have e2 : ((2 : Int) ^ w.toNat - 1).toNat = 2 ^ w.toNat - 1 := by
    have : (2 : Int) ^ w.toNat = ((2 ^ w.toNat : Nat) : Int) := by simp
    rw [this]; have := Nat.pow_pos (n := w.toNat) (show 0 < 2 by omega); omega
  have e3 : (8 - w * ((k : Int) + 1)).toNat = 8 - w.toNat * (k + 1) := by
    have := (bits8 hw).2 k hk
    have hm : (w.toNat : Int) * ((k : Int) + 1) = w * ((k : Int) + 1) := by
      have : (w.toNat : Int) = w := by rcases hw with h | h | h | h <;> omega
      rw [this]
    have hn : ((w.toNat * (k + 1) : Nat) : Int) = w * ((k : Int) + 1) := by rw [← hm]; simp
    omega
  rw [e, e2, e3, dig]
theorem cut_funG (o : Ots) (b : List (BitVec 8)) (most : Int) (hw : wOK o.w) (hb : b.length ≤ 1000000000) (hm : i64ok most) : FunG Tryz.prog Gs 221 [Enc.enc o, Enc.enc b, Enc.enc most] [] (.sl 1 0 (cutS o.w.toNat b most).length 1) [(1, ⟨(cutS o.w.toNat b most).map .i, true⟩)] := by
  refine FunG_cc [ctTop] [] 0 mo Tryz.func221 (by decide) cc221 rs221 Tryz.ntmps221 (by simp) rfl (by simp) rfl ?_
  refine AW_run (ctTop_ok CtOK_nil) 12 ?_
  have hw1 : 0 < o.w ∧ o.w ≤ 8 := by rcases hw with h | h | h | h <;> omega
  simp (maxSteps := 10000000) (disch := omega) only [go_sem, c221, reduceIte, seval, -BitVec.isValue, -BitVec.reduceOfNat, -List.reduceReplicate]
  refine AW_null 7 1 (by simp only [go_sem, reduceIte, seval, -BitVec.isValue, -BitVec.reduceOfNat, -List.reduceReplicate]) ?_
  simp only [go_sem, reduceIte, seval, -BitVec.isValue, -BitVec.reduceOfNat, -List.reduceReplicate]
  refine AW_loop (σcut o b most) (fun i => i ≤ b.length) (fun i => b.length - i) 0 (Nat.zero_le _) (Wk_d [] (by simp) ?_) fun i hi => ?_
  · simp only [go_sem, σcut, cutS, cutAll, List.flatMap_nil, reduceIte, seval, -BitVec.isValue, -BitVec.reduceOfNat, -List.reduceReplicate]
    try simp
  · refine AW_run (ctTop_ok CtOK_nil) 1000 ?_
    simp (maxSteps := 10000000) (disch := omega) only [go_sem, σcut, reduceIte, seval, -BitVec.isValue, -BitVec.reduceOfNat, -List.reduceReplicate]
    refine run_br (fun hb => ?_) (fun hb => ?_)
    · have hlt : i < b.length := by simpa using hb
      simp (maxSteps := 10000000) (disch := omega) only [go_sem, reduceIte, seval, -BitVec.isValue, -BitVec.reduceOfNat, -List.reduceReplicate]
      refine AW_loop (σcut2 o b most i) (fun k => k ≤ 8 / o.w.toNat) (fun k => 8 / o.w.toNat - k) 0 (Nat.zero_le _) (Wk_d [] (by simp) ?_) fun k hk => ?_
      · simp only [go_sem, σcut2, cutM_zero, reduceIte, seval, -BitVec.isValue, -BitVec.reduceOfNat, -List.reduceReplicate]
        try simp
      · refine AW_run (ctTop_ok CtOK_nil) 1000 ?_
        simp (maxSteps := 10000000) (disch := omega) only [go_sem, σcut2, reduceIte, seval, -BitVec.isValue, -BitVec.reduceOfNat, -List.reduceReplicate]
        have hx := bits8 hw
        refine run_br (fun hc => ?_) (fun hc => ?_)
        · have hkl : k < 8 / o.w.toNat := by
            have h9 : (k : Int) < 8 / o.w := by simpa using hc
            have h10 := hx.1
            omega
          obtain ⟨y1, y2⟩ := hx.2 k hkl
          have hkk : (k : Int) < 8 / o.w := by omega
          have hk8 : k < 8 := by have := Nat.div_le_self 8 o.w.toNat; omega
          obtain ⟨p1, p2⟩ := pow_le61 (show o.w ≤ 61 by omega)
          have hq := (b.getD i 0).isLt
          have hq0 : 0 ≤ ((b.getD i 0).toNat : Int) / 2 ^ (8 - o.w * ((k : Int) + 1)).toNat := Int.ediv_nonneg (by omega) (by have := Int.pow_pos (n := 2) (m := (8 - o.w * ((k : Int) + 1)).toNat) (by omega); omega)
          have hq1 : ((b.getD i 0).toNat : Int) / 2 ^ (8 - o.w * ((k : Int) + 1)).toNat ≤ (b.getD i 0).toNat := Int.ediv_le_self _ (by omega)
          simp (maxSteps := 10000000) (disch := omega) only [go_sem, reduceIte, seval, -BitVec.isValue, -BitVec.reduceOfNat, -List.reduceReplicate]
          refine run_br (fun hd => ?_) (fun hd => ?_)
          · have hlen : ((cutM o.w.toNat b most i k).length : Int) < most := by simpa using hd
            have hcl := cutM_len o.w.toNat b most i k
            simp (maxSteps := 10000000) (disch := omega) only [go_sem, ctTop, reduceIte, seval, -BitVec.isValue, -BitVec.reduceOfNat, -List.reduceReplicate]
            refine ⟨k + 1, by omega, Wk_d [(0, 0), (1, 3)] (by simp) ?_, by omega⟩
            simp only [go_sem, reduceIte, seval, -BitVec.isValue, -BitVec.reduceOfNat, -List.reduceReplicate]
            rw [cutM_more _ _ _ _ _ hlen, dig_eq hw _ k hkl]
            simp
          · have hlen : ¬ ((cutM o.w.toNat b most i k).length : Int) < most := by simpa using hd
            simp (maxSteps := 10000000) (disch := omega) only [go_sem, reduceIte, seval, -BitVec.isValue, -BitVec.reduceOfNat, -List.reduceReplicate]
            refine ⟨k + 1, by omega, Wk_d [] (by simp) ?_, by omega⟩
            simp only [go_sem, reduceIte, seval, -BitVec.isValue, -BitVec.reduceOfNat, -List.reduceReplicate]
            rw [cutM_same _ _ _ _ _ hlen]
            simp
        · have hke : k = 8 / o.w.toNat := by
            have h9 : ¬ (k : Int) < 8 / o.w := by simpa using hc
            have h10 := hx.1
            omega
          have hkk : ¬ (k : Int) < 8 / o.w := by have := hx.1; omega
          simp (maxSteps := 10000000) (disch := omega) only [go_sem, reduceIte, seval, -BitVec.isValue, -BitVec.reduceOfNat, -List.reduceReplicate]
          refine ⟨i + 1, by omega, Wk_d [] (by simp) ?_, by omega⟩
          simp only [go_sem, reduceIte, seval, -BitVec.isValue, -BitVec.reduceOfNat, -List.reduceReplicate]
          rw [hke, cutM_all _ _ _ _ hlt]
          simp
    · have hge : i = b.length := by have : ¬ i < b.length := by simpa using hb
                                    omega
      subst hge
      simp (maxSteps := 10000000) (disch := omega) only [go_sem, reduceIte, seval, -BitVec.isValue, -BitVec.reduceOfNat, -List.reduceReplicate]
theorem cut_fun (o : Ots) (b : List (BitVec 8)) (most : Int) (hw : wOK o.w) (hb : b.length ≤ 1000000000) (hm : i64ok most) : Fun Tryz.prog Gs 221 [Enc.enc o, Enc.enc b, Enc.enc most] (Enc.ret (cutS o.w.toNat b most)) :=
  Fun_of_FunG (cut_funG o b most hw hb hm) (by simp only [go_sem, reduceIte, seval, -BitVec.isValue, -BitVec.reduceOfNat, -List.reduceReplicate])
end Go.Lv
namespace Go.Lv
open Go Go.Proofs
set_option linter.unusedSimpArgs false
set_option maxRecDepth 100000
structure OtsOK (o : Ots) : Prop where
  w : wOK o.w
  n : o.n = 24 ∨ o.n = 32
  p : 26 ≤ o.p ∧ o.p ≤ 265
  ls : 0 ≤ o.ls ∧ o.ls ≤ 8
  u : 8 * o.n / o.w ≤ o.p
  u2 : o.p ≤ 8 * o.n / o.w + 16 / o.w
theorem otsT_ok {c : BitVec 32} {o : Ots} (h : otsT c = some o) : OtsOK o := by
  unfold otsT at h
  split at h <;> first
    | (cases h; exact ⟨by unfold wOK; decide, by decide, by decide, by decide, by decide, by decide⟩)
    | cases h
def sumS (w : Nat) (l : List Int) : Int := (l.map fun d => (2 : Int) ^ w - 1 - d).sum
def digS (o : Ots) (sum : List (BitVec 8)) : List Int :=
  cutS o.w.toNat sum o.p ++ cutS o.w.toNat (bigL ((BitVec.ofInt 16 (sumS o.w.toNat (cutS o.w.toNat sum o.p) * 2 ^ o.ls.toNat)).setWidth 64) 2) (o.p - (cutS o.w.toNat sum o.p).length)
def ctCut : Nat × (List AV → R) := (221, A3 fun (o : Ots) (b : List (BitVec 8)) (most : Int) => (wOK o.w ∧ b.length ≤ 1000000000 ∧ i64ok most, Enc.ret (cutS o.w.toNat b most)))
theorem ctCut_ok {Ct : List (Nat × (List AV → R))} (h : CtOK Tryz.prog Gs Ct) : CtOK Tryz.prog Gs (ctCut :: Ct) := CtOK_cons (Row3 fun o b m h => cut_fun o b m h.1 h.2.1 h.2.2) h
def ctU16 : Nat × (List AV → R) := (179, A1 fun n : BitVec 16 => (True, Enc.ret (bigL (n.setWidth 64) 2)))
theorem ctU16_ok {Ct : List (Nat × (List AV → R))} (h : CtOK Tryz.prog Gs Ct) : CtOK Tryz.prog Gs (ctU16 :: Ct) := CtOK_cons (Row1 fun n _ => U16_fun n) h
def ctMay : Nat × (List AV → R) := (175, A1 fun o : Ots => (True, .i (otsMay o)))
theorem ctMay_ok {Ct : List (Nat × (List AV → R))} (h : CtOK Tryz.prog Gs Ct) : CtOK Tryz.prog Gs (ctMay :: Ct) := CtOK_cons (Row1 fun n _ => may_fun n) h
theorem cutS_range {w : Nat} {b : List (BitVec 8)} {m : Int} : ∀ d ∈ cutS w b m, 0 ≤ d ∧ d ≤ 2 ^ w - 1 := by
  intro d hd
  have h1 := List.mem_of_mem_take hd
  simp only [cutAll, List.mem_flatMap, digs, List.mem_map] at h1
  obtain ⟨x, _, k, _, rfl⟩ := h1
  have hp : (2 : Int) ^ w = ((2 ^ w : Nat) : Int) := by simp
  have h2 := Nat.pow_pos (n := w) (show 0 < 2 by omega)
  rw [hp]
  unfold dig
  have := @Nat.and_le_right (x.toNat / 2 ^ (8 - w * (k + 1))) (2 ^ w - 1)
  omega
theorem cutS_len {w : Nat} {b : List (BitVec 8)} {m : Int} (h : 0 ≤ m): ((cutS w b m).length : Int) ≤ m := by
  simp only [cutS, List.length_take]; omega
theorem sumS_range (w : Nat) : ∀ (l : List Int), (∀ d ∈ l, 0 ≤ d ∧ d ≤ 2 ^ w - 1) → 0 ≤ sumS w l ∧ sumS w l ≤ l.length * (2 ^ w - 1)
  | [], _ => by simp [sumS]
  | x :: l, h => by
    have h1 := sumS_range w l fun d hd => h d (List.mem_cons_of_mem _ hd)
    have h2 := h x (List.mem_cons_self ..)
    simp only [sumS, List.map_cons, List.sum_cons, List.length_cons] at h1 ⊢
    have : ((l.length + 1 : Nat) : Int) * (2 ^ w - 1) = l.length * (2 ^ w - 1) + (2 ^ w - 1) := by rw [Int.natCast_add, Int.add_mul]; simp
    omega
theorem sumS_take (w : Nat) (l : List Int) (k : Nat) (h : k < l.length) : sumS w (l.take (k + 1)) = sumS w (l.take k) + (2 ^ w - 1 - l.getD k 0) := by
  rw [List.take_succ_eq_append_getElem h]
  simp only [sumS, List.map_append, List.sum_append, List.map_cons, List.map_nil, List.sum_cons, List.sum_nil]
  simp [List.getD_eq_getElem?_getD, h]
def σdig (o : Ots) (sum : List (BitVec 8)) (l : List Int) (k : Nat) : St :=
  ⟨[(1, Enc.enc sum), (2, .ptr 0 0), (5, .sl 1 0 l.length 1), (6, .i (sumS o.w.toNat (l.take k))), (14, .sl 1 0 l.length 1), (15, .i l.length), (16, .i k)],
   [(0, ⟨[.u32 o.code, .b o.shake, .i o.n, .i o.w, .i o.p, .i o.ls], true⟩), (1, ⟨l.map .i, true⟩)], 2⟩
theorem w_pow {w : Int} (h : wOK w) : 0 ≤ (2 : Int) ^ w.toNat - 1 ∧ (2 : Int) ^ w.toNat - 1 ≤ 255 := by
  rcases h with rfl | rfl | rfl | rfl <;> decide
theorem ls_pow {l : Int} (h : 0 ≤ l ∧ l ≤ 8) : 0 < (2 : Int) ^ l.toNat ∧ (2 : Int) ^ l.toNat ≤ 256 := by
  have h2 : (2 : Int) ^ l.toNat = (((2 : Nat) ^ l.toNat : Nat) : Int) := by simp
  have h1 : (2 : Nat) ^ l.toNat ≤ 2 ^ 8 := Nat.pow_le_pow_right (by omega) (by omega)
  have h3 : 0 < (2 : Nat) ^ l.toNat := Nat.pow_pos (by omega)
  rw [h2]; omega
theorem sumS_bound {w : Int} (hw : wOK w) {l : List Int} (h : ∀ d ∈ l, 0 ≤ d ∧ d ≤ 2 ^ w.toNat - 1) {n : Nat} (hn : l.length ≤ n) : 0 ≤ sumS w.toNat l ∧ sumS w.toNat l ≤ n * 255 := by
  obtain ⟨h1, h2⟩ := sumS_range w.toNat l h
  have h3 : (l.length : Int) * (2 ^ w.toNat - 1) ≤ n * 255 := by
    have := w_pow hw
    exact Int.mul_le_mul (by omega) this.2 this.1 (by omega)
  omega
theorem mul_bound {s q : Int} (hs : 0 ≤ s ∧ s ≤ (265 : Nat) * 255) (hq : 0 < q ∧ q ≤ 256) : 0 ≤ s * q ∧ s * q ≤ 17299200 := by
  have h1 : s * q ≤ 67575 * 256 := Int.mul_le_mul (by omega) hq.2 (by omega) (by omega)
  have h2 := Int.mul_nonneg hs.1 (show 0 ≤ q by omega)
  omega
theorem digits_fun (o : Ots) (sum : List (BitVec 8)) (ho : OtsOK o) (hs : sum.length ≤ 1000000) : Fun Tryz.prog Gs 205 [Enc.enc o, Enc.enc sum] (Enc.ret (digS o sum)) := by
  refine Fun_cc [] mo Tryz.func205 (by decide) cc205 rs205 Tryz.ntmps205 (by simp) ?_
  have hct := ctCut_ok (ctU16_ok (ctTop_ok CtOK_nil))
  refine AW_run CtOK_nil 1000 ?_
  have hw := ho.w
  have hp := ho.p
  have hls := ho.ls
  have hw1 : 0 < o.w ∧ o.w ≤ 8 := by rcases hw with h | h | h | h <;> omega
  have hwp := w_pow hw
  have hlp := ls_pow hls
  have hpi : i64ok o.p := by unfold i64ok; omega
  simp (maxSteps := 10000000) (disch := omega) only [go_sem, c205, reduceIte, seval, -BitVec.isValue, -BitVec.reduceOfNat, -List.reduceReplicate]
  refine AW_callG [] [(1, 1)] 2 [] false (by simp only [go_sem, reduceIte, seval, -BitVec.isValue, -BitVec.reduceOfNat, -List.reduceReplicate]) (by simp only [go_sem, reduceIte, seval, -BitVec.isValue, -BitVec.reduceOfNat, -List.reduceReplicate]) (cut_funG o sum o.p hw (by omega) hpi) (by rfl) (.inr rfl) (by simp only [go_sem, reduceIte, seval, -BitVec.isValue, -BitVec.reduceOfNat, -List.reduceReplicate]) (by rfl) (by simp only [go_sem, reduceIte, seval, -BitVec.isValue, -BitVec.reduceOfNat, -List.reduceReplicate]) (by simp only [go_sem, reduceIte, seval, -BitVec.isValue, -BitVec.reduceOfNat, -List.reduceReplicate]) (by simp only [go_sem, reduceIte, seval, -BitVec.isValue, -BitVec.reduceOfNat, -List.reduceReplicate]) (by simp only [go_sem, reduceIte, seval, -BitVec.isValue, -BitVec.reduceOfNat, -List.reduceReplicate]) ?_
  refine AW_ct [ctCut, ctU16, ctTop] (AW_run hct 1000 ?_)
  simp (maxSteps := 10000000) (disch := omega) only [go_sem, ctCut, ctU16, ctTop, hw, hpi, reduceIte, seval, -BitVec.isValue, -BitVec.reduceOfNat, -List.reduceReplicate]
  have hl := @cutS_range o.w.toNat sum o.p
  have hn := @cutS_len o.w.toNat sum o.p (by omega)
  refine AW_loop (σdig o sum (cutS o.w.toNat sum o.p)) (fun i => i ≤ (cutS o.w.toNat sum o.p).length) (fun i => (cutS o.w.toNat sum o.p).length - i) 0 (Nat.zero_le _) (Wk_p [] ?_) fun i hi => ?_
  · simp only [go_sem, σdig, reduceIte, seval, -BitVec.isValue, -BitVec.reduceOfNat, -List.reduceReplicate]
    simp [sumS]
  · refine AW_run hct 1000 ?_
    simp (maxSteps := 10000000) (disch := omega) only [go_sem, σdig, reduceIte, seval, -BitVec.isValue, -BitVec.reduceOfNat, -List.reduceReplicate]
    have hr := sumS_bound hw (l := (cutS o.w.toNat sum o.p).take i) (fun d hd => hl d (List.mem_of_mem_take hd)) (n := 265) (by rw [List.length_take]; omega)
    have hm := mul_bound hr hlp
    refine run_br (fun hb => ?_) (fun hb => ?_)
    · have hlt : i < (cutS o.w.toNat sum o.p).length := by simpa using hb
      have hd := hl ((cutS o.w.toNat sum o.p).getD i 0) (by simp [List.getD_eq_getElem?_getD, hlt])
      simp (maxSteps := 10000000) (disch := omega) only [go_sem, ctCut, ctU16, ctTop, hw, hpi, reduceIte, seval, -BitVec.isValue, -BitVec.reduceOfNat, -List.reduceReplicate]
      refine ⟨i + 1, by omega, Wk_p [] ?_, by omega⟩
      simp only [go_sem, reduceIte, seval, -BitVec.isValue, -BitVec.reduceOfNat, -List.reduceReplicate]
      rw [sumS_take _ _ _ hlt]
      simp
    · have hge : i = (cutS o.w.toNat sum o.p).length := by have : ¬ i < (cutS o.w.toNat sum o.p).length := by simpa using hb
                                                           omega
      have hcl := hn
      subst hge
      rw [List.take_length] at hr hm
      have hpj : i64ok (o.p - ((cutS o.w.toNat sum o.p).length : Int)) := by unfold i64ok; omega
      have hc2 := @cutS_len o.w.toNat (bigL (BitVec.setWidth 64 (BitVec.ofInt 16 (sumS o.w.toNat (cutS o.w.toNat sum o.p) * 2 ^ o.ls.toNat))) 2) (o.p - ((cutS o.w.toNat sum o.p).length : Int)) (by omega)
      simp (maxSteps := 10000000) (disch := omega) only [go_sem, ctCut, ctU16, ctTop, hw, hpi, hpj, bigL_len, reduceIte, seval, -BitVec.isValue, -BitVec.reduceOfNat, -List.reduceReplicate]
      simp [digS]
      rw [List.take_of_length_le (by simp)]
def ctDigits : Nat × (List AV → R) := (205, A2 fun (o : Ots) (b : List (BitVec 8)) => (OtsOK o ∧ b.length ≤ 1000000, Enc.ret (digS o b)))
theorem ctDigits_ok {Ct : List (Nat × (List AV → R))} (h : CtOK Tryz.prog Gs Ct) : CtOK Tryz.prog Gs (ctDigits :: Ct) := CtOK_cons (Row2 fun o b h => digits_fun o b h.1 h.2) h
end Go.Lv
namespace Go.Lv
open Go Go.Proofs
set_option linter.unusedSimpArgs false
set_option maxRecDepth 100000
theorem rbytes_fun (k : Int) (h : 0 ≤ k) : Fun Tryz.prog Gs 142 [Enc.enc k] (.i (if k % 2 = 1 then 24 else 32)) := by
  refine Fun_cc [] mo Tryz.func142 (by decide) cc142 rs142 Tryz.ntmps142 (by simp) ?_
  refine AW_run CtOK_nil 1000 ?_
  by_cases h3 : k % 2 = 1
  · simp (maxSteps := 10000000) (disch := omega) only [go_sem, c142, Int.tmod_eq_emod_of_nonneg, reduceIte, seval, -BitVec.isValue, -BitVec.reduceOfNat, -List.reduceReplicate]
  · simp (maxSteps := 10000000) (disch := omega) only [go_sem, c142, Int.tmod_eq_emod_of_nonneg, reduceIte, seval, -BitVec.isValue, -BitVec.reduceOfNat, -List.reduceReplicate]; simp [h3]
def σpow (n : Int) (k : Nat) : St := ⟨[(3, .i (2 ^ k)), (4, .i n), (5, .i k)], [], 0⟩
theorem rpower_fun (n : Int) (h : 0 ≤ n ∧ n ≤ 61) : Fun Tryz.prog Gs 201 [Enc.enc n] (.i (2 ^ n.toNat)) := by
  refine Fun_cc [] mo Tryz.func201 (by decide) cc201 rs201 Tryz.ntmps201 (by simp) ?_
  refine AW_run CtOK_nil 1000 ?_
  simp (maxSteps := 10000000) (disch := omega) only [go_sem, c201, reduceIte, seval, -BitVec.isValue, -BitVec.reduceOfNat, -List.reduceReplicate]
  refine AW_loop (σpow n) (fun k => k ≤ n) (fun k => n.toNat - k) 0 (by omega) (Wk_p [] ?_) fun k hk => ?_
  · simp only [go_sem, σpow, reduceIte, seval, -BitVec.isValue, -BitVec.reduceOfNat, -List.reduceReplicate]
    try simp
  · refine AW_run CtOK_nil 1000 ?_
    have hp := pow_le61 (w := (k : Int)) (by omega)
    simp only [Int.toNat_natCast] at hp
    simp (maxSteps := 10000000) (disch := omega) only [go_sem, σpow, reduceIte, seval, -BitVec.isValue, -BitVec.reduceOfNat, -List.reduceReplicate]
    refine run_br (fun hb => ?_) (fun hb => ?_)
    · have hlt : (k : Int) < n := by simpa using hb
      simp (maxSteps := 10000000) (disch := omega) only [go_sem, reduceIte, seval, -BitVec.isValue, -BitVec.reduceOfNat, -List.reduceReplicate]
      refine ⟨k + 1, by omega, Wk_p [] ?_, by omega⟩
      simp only [go_sem, reduceIte, seval, -BitVec.isValue, -BitVec.reduceOfNat, -List.reduceReplicate]
      simp [Int.pow_succ]
    · have hge : n = k := by have : ¬ (k : Int) < n := by simpa using hb
                             omega
      subst hge
      simp (maxSteps := 10000000) (disch := omega) only [go_sem, reduceIte, seval, -BitVec.isValue, -BitVec.reduceOfNat, -List.reduceReplicate]
def ctRpow : Nat × (List AV → R) := (201, A1 fun n : Int => (0 ≤ n ∧ n ≤ 61, .i (2 ^ n.toNat)))
theorem ctRpow_ok {Ct : List (Nat × (List AV → R))} (h : CtOK Tryz.prog Gs Ct) : CtOK Tryz.prog Gs (ctRpow :: Ct) := CtOK_cons (Row1 fun o h => rpower_fun o h) h
def ctRbytes : Nat × (List AV → R) := (142, A1 fun n : Int => (0 ≤ n, .i (if n % 2 = 1 then 24 else 32)))
theorem ctRbytes_ok {Ct : List (Nat × (List AV → R))} (h : CtOK Tryz.prog Gs Ct) : CtOK Tryz.prog Gs (ctRbytes :: Ct) := CtOK_cons (Row1 fun o h => rbytes_fun o h) h
theorem rup_fun (a b : Int) (h : 0 ≤ a ∧ a ≤ 1000000000 ∧ 0 < b ∧ b ≤ 1000000000) : Fun Tryz.prog Gs 202 [Enc.enc a, Enc.enc b] (.i ((a + b - 1) / b)) := by
  refine Fun_cc [] mo Tryz.func202 (by decide) cc202 rs202 Tryz.ntmps202 (by simp) ?_
  refine AW_run CtOK_nil 1000 ?_
  simp (maxSteps := 10000000) (disch := omega) only [go_sem, c202, Int.tdiv_eq_ediv_of_nonneg, reduceIte, seval, -BitVec.isValue, -BitVec.reduceOfNat, -List.reduceReplicate]
def bitsS (n : Nat) : Nat := if n = 0 then 0 else n.log2 + 1
theorem bitsS_eq {n b : Nat} (h1 : ∀ j < b, 2 ^ j ≤ n) (h2 : n < 2 ^ b) : b = bitsS n := by
  unfold bitsS
  split
  · rename_i h; subst h
    rcases Nat.eq_zero_or_pos b with h | h
    · exact h
    · have := h1 0 h; simp at this
  · rename_i h
    rcases Nat.eq_zero_or_pos b with h0 | h0
    · subst h0; simp at h2; omega
    · have h3 := h1 (b - 1) (by omega)
      rw [← Nat.le_log2 h] at h3
      rw [← Nat.log2_lt h] at h2
      omega
def σbits (n : Int) (k : Nat) : St := ⟨[(0, .i n), (3, .i k)], [], 0⟩
theorem rbits_fun (n : Int) (h : 0 ≤ n ∧ n < 2 ^ 40) : Fun Tryz.prog Gs 203 [Enc.enc n] (.i (bitsS n.toNat)) := by
  obtain ⟨n, rfl⟩ := Int.eq_ofNat_of_zero_le h.1
  have h4 : n < 2 ^ 40 := by omega
  refine Fun_cc [ctRpow] mo Tryz.func203 (by decide) cc203 rs203 Tryz.ntmps203 (by simp) ?_
  refine AW_run (ctRpow_ok CtOK_nil) 1000 ?_
  simp (maxSteps := 10000000) (disch := omega) only [go_sem, c203, reduceIte, seval, -BitVec.isValue, -BitVec.reduceOfNat, -List.reduceReplicate]
  refine AW_loop (σbits n) (fun k => k ≤ 40 ∧ ∀ j < k, 2 ^ j ≤ n) (fun k => 40 - k) 0 ⟨by omega, by intro j hj; omega⟩ (Wk_p [] ?_) fun k hk => ?_
  · simp only [go_sem, σbits, reduceIte, seval, -BitVec.isValue, -BitVec.reduceOfNat, -List.reduceReplicate]
    try simp
  · refine AW_run (ctRpow_ok CtOK_nil) 1000 ?_
    obtain ⟨hk, hj⟩ := hk
    simp (maxSteps := 10000000) (disch := omega) only [go_sem, σbits, ctRpow, reduceIte, seval, -BitVec.isValue, -BitVec.reduceOfNat, -List.reduceReplicate]
    have e : (2 : Int) ^ k = ((2 ^ k : Nat) : Int) := by simp
    refine run_br (fun hb => ?_) (fun hb => ?_)
    · have hb1 := of_decide_eq_true hb
      have hlt : 2 ^ k ≤ n := by omega
      have hk4 : k < 40 := by
        rcases Nat.lt_or_ge k 40 with h | h
        · exact h
        · have := Nat.pow_le_pow_right (show 0 < 2 by omega) h; omega
      simp (maxSteps := 10000000) (disch := omega) only [go_sem, reduceIte, seval, -BitVec.isValue, -BitVec.reduceOfNat, -List.reduceReplicate]
      refine ⟨k + 1, ⟨by omega, fun j h => ?_⟩, Wk_p [] ?_, by omega⟩
      · rcases Nat.lt_or_ge j k with h5 | h5
        · exact hj j h5
        · have : j = k := by omega
          subst this; exact hlt
      · simp only [go_sem, reduceIte, seval, -BitVec.isValue, -BitVec.reduceOfNat, -List.reduceReplicate]
        simp
    · have hb1 := of_decide_eq_false hb
      have hge : n < 2 ^ k := by omega
      have := bitsS_eq hj hge
      simp (maxSteps := 10000000) (disch := omega) only [go_sem, reduceIte, seval, -BitVec.isValue, -BitVec.reduceOfNat, -List.reduceReplicate]
      simp [← this]
def ctRbits : Nat × (List AV → R) := (203, A1 fun n : Int => (0 ≤ n ∧ n < 1099511627776, .i (bitsS n.toNat)))
theorem ctRbits_ok {Ct : List (Nat × (List AV → R))} (h : CtOK Tryz.prog Gs Ct) : CtOK Tryz.prog Gs (ctRbits :: Ct) := CtOK_cons (Row1 fun o h => rbits_fun o h) h
def ctRup : Nat × (List AV → R) := (202, A2 fun a b : Int => (0 ≤ a ∧ a ≤ 1000000000 ∧ 0 < b ∧ b ≤ 1000000000, .i ((a + b - 1) / b)))
theorem ctRup_ok {Ct : List (Nat × (List AV → R))} (h : CtOK Tryz.prog Gs Ct) : CtOK Tryz.prog Gs (ctRup :: Ct) := CtOK_cons (Row2 fun a b h => rup_fun a b h) h
theorem rOts_err (c : BitVec 32) (h : c = 0 ∨ 16 < c.toNat) : Fun Tryz.prog Gs 155 [Enc.enc c] (.tup [Enc.enc ots0, .i 60]) := by
  refine Fun_cc [] mo Tryz.func155 (by decide) cc155 rs155 Tryz.ntmps155 (by simp) ?_
  refine AW_run CtOK_nil 1000 ?_
  rcases h with rfl | h
  · simp (maxSteps := 10000000) (disch := omega) only [go_sem, c155, ots0, reduceIte, seval, -BitVec.isValue, -BitVec.reduceOfNat, -List.reduceReplicate]
  · have h1 : ¬ (c < 1#32) := by rw [BitVec.lt_def]; simp; omega
    have h2 : (16#32 < c) := by rw [BitVec.lt_def]; simpa using h
    simp (maxSteps := 10000000) (disch := omega) only [go_sem, c155, ots0, h1, h2, reduceIte, seval, -BitVec.isValue, -BitVec.reduceOfNat, -List.reduceReplicate]
theorem rOts_1 : Fun Tryz.prog Gs 155 [Enc.enc (1 : BitVec 32)] (.tup [Enc.enc (⟨1, false, 32, 1, 265, 7⟩ : Ots), .i 0]) := by
  refine Fun_cc [ctRbytes, ctRpow, ctRbits, ctRup] mo Tryz.func155 (by decide) cc155 rs155 Tryz.ntmps155 (by simp) ?_
  refine AW_run (ctRbytes_ok (ctRpow_ok (ctRbits_ok (ctRup_ok CtOK_nil)))) 1000 ?_
  have : bitsS 256 = 9 := by decide +kernel
  simp (maxSteps := 10000000) (disch := omega) only [go_sem, c155, ctRbytes, ctRpow, ctRbits, ctRup, Int.cast_ofNat_Int, this, reduceIte, seval, -BitVec.isValue, -BitVec.reduceOfNat, -List.reduceReplicate]
theorem rOts_2 : Fun Tryz.prog Gs 155 [Enc.enc (2 : BitVec 32)] (.tup [Enc.enc (⟨2, false, 32, 2, 133, 6⟩ : Ots), .i 0]) := by
  refine Fun_cc [ctRbytes, ctRpow, ctRbits, ctRup] mo Tryz.func155 (by decide) cc155 rs155 Tryz.ntmps155 (by simp) ?_
  refine AW_run (ctRbytes_ok (ctRpow_ok (ctRbits_ok (ctRup_ok CtOK_nil)))) 1000 ?_
  have : bitsS 384 = 9 := by decide +kernel
  simp (maxSteps := 10000000) (disch := omega) only [go_sem, c155, ctRbytes, ctRpow, ctRbits, ctRup, Int.cast_ofNat_Int, this, reduceIte, seval, -BitVec.isValue, -BitVec.reduceOfNat, -List.reduceReplicate]
theorem rOts_3 : Fun Tryz.prog Gs 155 [Enc.enc (3 : BitVec 32)] (.tup [Enc.enc (⟨3, false, 32, 4, 67, 4⟩ : Ots), .i 0]) := by
  refine Fun_cc [ctRbytes, ctRpow, ctRbits, ctRup] mo Tryz.func155 (by decide) cc155 rs155 Tryz.ntmps155 (by simp) ?_
  refine AW_run (ctRbytes_ok (ctRpow_ok (ctRbits_ok (ctRup_ok CtOK_nil)))) 1000 ?_
  have : bitsS 960 = 10 := by decide +kernel
  simp (maxSteps := 10000000) (disch := omega) only [go_sem, c155, ctRbytes, ctRpow, ctRbits, ctRup, Int.cast_ofNat_Int, this, reduceIte, seval, -BitVec.isValue, -BitVec.reduceOfNat, -List.reduceReplicate]
theorem rOts_4 : Fun Tryz.prog Gs 155 [Enc.enc (4 : BitVec 32)] (.tup [Enc.enc (⟨4, false, 32, 8, 34, 0⟩ : Ots), .i 0]) := by
  refine Fun_cc [ctRbytes, ctRpow, ctRbits, ctRup] mo Tryz.func155 (by decide) cc155 rs155 Tryz.ntmps155 (by simp) ?_
  refine AW_run (ctRbytes_ok (ctRpow_ok (ctRbits_ok (ctRup_ok CtOK_nil)))) 1000 ?_
  have : bitsS 8160 = 13 := by decide +kernel
  simp (maxSteps := 10000000) (disch := omega) only [go_sem, c155, ctRbytes, ctRpow, ctRbits, ctRup, Int.cast_ofNat_Int, this, reduceIte, seval, -BitVec.isValue, -BitVec.reduceOfNat, -List.reduceReplicate]
theorem rOts_5 : Fun Tryz.prog Gs 155 [Enc.enc (5 : BitVec 32)] (.tup [Enc.enc (⟨5, false, 24, 1, 200, 8⟩ : Ots), .i 0]) := by
  refine Fun_cc [ctRbytes, ctRpow, ctRbits, ctRup] mo Tryz.func155 (by decide) cc155 rs155 Tryz.ntmps155 (by simp) ?_
  refine AW_run (ctRbytes_ok (ctRpow_ok (ctRbits_ok (ctRup_ok CtOK_nil)))) 1000 ?_
  have : bitsS 192 = 8 := by decide +kernel
  simp (maxSteps := 10000000) (disch := omega) only [go_sem, c155, ctRbytes, ctRpow, ctRbits, ctRup, Int.cast_ofNat_Int, this, reduceIte, seval, -BitVec.isValue, -BitVec.reduceOfNat, -List.reduceReplicate]
theorem rOts_6 : Fun Tryz.prog Gs 155 [Enc.enc (6 : BitVec 32)] (.tup [Enc.enc (⟨6, false, 24, 2, 101, 6⟩ : Ots), .i 0]) := by
  refine Fun_cc [ctRbytes, ctRpow, ctRbits, ctRup] mo Tryz.func155 (by decide) cc155 rs155 Tryz.ntmps155 (by simp) ?_
  refine AW_run (ctRbytes_ok (ctRpow_ok (ctRbits_ok (ctRup_ok CtOK_nil)))) 1000 ?_
  have : bitsS 288 = 9 := by decide +kernel
  simp (maxSteps := 10000000) (disch := omega) only [go_sem, c155, ctRbytes, ctRpow, ctRbits, ctRup, Int.cast_ofNat_Int, this, reduceIte, seval, -BitVec.isValue, -BitVec.reduceOfNat, -List.reduceReplicate]
theorem rOts_7 : Fun Tryz.prog Gs 155 [Enc.enc (7 : BitVec 32)] (.tup [Enc.enc (⟨7, false, 24, 4, 51, 4⟩ : Ots), .i 0]) := by
  refine Fun_cc [ctRbytes, ctRpow, ctRbits, ctRup] mo Tryz.func155 (by decide) cc155 rs155 Tryz.ntmps155 (by simp) ?_
  refine AW_run (ctRbytes_ok (ctRpow_ok (ctRbits_ok (ctRup_ok CtOK_nil)))) 1000 ?_
  have : bitsS 720 = 10 := by decide +kernel
  simp (maxSteps := 10000000) (disch := omega) only [go_sem, c155, ctRbytes, ctRpow, ctRbits, ctRup, Int.cast_ofNat_Int, this, reduceIte, seval, -BitVec.isValue, -BitVec.reduceOfNat, -List.reduceReplicate]
theorem rOts_8 : Fun Tryz.prog Gs 155 [Enc.enc (8 : BitVec 32)] (.tup [Enc.enc (⟨8, false, 24, 8, 26, 0⟩ : Ots), .i 0]) := by
  refine Fun_cc [ctRbytes, ctRpow, ctRbits, ctRup] mo Tryz.func155 (by decide) cc155 rs155 Tryz.ntmps155 (by simp) ?_
  refine AW_run (ctRbytes_ok (ctRpow_ok (ctRbits_ok (ctRup_ok CtOK_nil)))) 1000 ?_
  have : bitsS 6120 = 13 := by decide +kernel
  simp (maxSteps := 10000000) (disch := omega) only [go_sem, c155, ctRbytes, ctRpow, ctRbits, ctRup, Int.cast_ofNat_Int, this, reduceIte, seval, -BitVec.isValue, -BitVec.reduceOfNat, -List.reduceReplicate]
theorem rOts_9 : Fun Tryz.prog Gs 155 [Enc.enc (9 : BitVec 32)] (.tup [Enc.enc (⟨9, true, 32, 1, 265, 7⟩ : Ots), .i 0]) := by
  refine Fun_cc [ctRbytes, ctRpow, ctRbits, ctRup] mo Tryz.func155 (by decide) cc155 rs155 Tryz.ntmps155 (by simp) ?_
  refine AW_run (ctRbytes_ok (ctRpow_ok (ctRbits_ok (ctRup_ok CtOK_nil)))) 1000 ?_
  have : bitsS 256 = 9 := by decide +kernel
  simp (maxSteps := 10000000) (disch := omega) only [go_sem, c155, ctRbytes, ctRpow, ctRbits, ctRup, Int.cast_ofNat_Int, this, reduceIte, seval, -BitVec.isValue, -BitVec.reduceOfNat, -List.reduceReplicate]
theorem rOts_10 : Fun Tryz.prog Gs 155 [Enc.enc (10 : BitVec 32)] (.tup [Enc.enc (⟨10, true, 32, 2, 133, 6⟩ : Ots), .i 0]) := by
  refine Fun_cc [ctRbytes, ctRpow, ctRbits, ctRup] mo Tryz.func155 (by decide) cc155 rs155 Tryz.ntmps155 (by simp) ?_
  refine AW_run (ctRbytes_ok (ctRpow_ok (ctRbits_ok (ctRup_ok CtOK_nil)))) 1000 ?_
  have : bitsS 384 = 9 := by decide +kernel
  simp (maxSteps := 10000000) (disch := omega) only [go_sem, c155, ctRbytes, ctRpow, ctRbits, ctRup, Int.cast_ofNat_Int, this, reduceIte, seval, -BitVec.isValue, -BitVec.reduceOfNat, -List.reduceReplicate]
theorem rOts_11 : Fun Tryz.prog Gs 155 [Enc.enc (11 : BitVec 32)] (.tup [Enc.enc (⟨11, true, 32, 4, 67, 4⟩ : Ots), .i 0]) := by
  refine Fun_cc [ctRbytes, ctRpow, ctRbits, ctRup] mo Tryz.func155 (by decide) cc155 rs155 Tryz.ntmps155 (by simp) ?_
  refine AW_run (ctRbytes_ok (ctRpow_ok (ctRbits_ok (ctRup_ok CtOK_nil)))) 1000 ?_
  have : bitsS 960 = 10 := by decide +kernel
  simp (maxSteps := 10000000) (disch := omega) only [go_sem, c155, ctRbytes, ctRpow, ctRbits, ctRup, Int.cast_ofNat_Int, this, reduceIte, seval, -BitVec.isValue, -BitVec.reduceOfNat, -List.reduceReplicate]
theorem rOts_12 : Fun Tryz.prog Gs 155 [Enc.enc (12 : BitVec 32)] (.tup [Enc.enc (⟨12, true, 32, 8, 34, 0⟩ : Ots), .i 0]) := by
  refine Fun_cc [ctRbytes, ctRpow, ctRbits, ctRup] mo Tryz.func155 (by decide) cc155 rs155 Tryz.ntmps155 (by simp) ?_
  refine AW_run (ctRbytes_ok (ctRpow_ok (ctRbits_ok (ctRup_ok CtOK_nil)))) 1000 ?_
  have : bitsS 8160 = 13 := by decide +kernel
  simp (maxSteps := 10000000) (disch := omega) only [go_sem, c155, ctRbytes, ctRpow, ctRbits, ctRup, Int.cast_ofNat_Int, this, reduceIte, seval, -BitVec.isValue, -BitVec.reduceOfNat, -List.reduceReplicate]
theorem rOts_13 : Fun Tryz.prog Gs 155 [Enc.enc (13 : BitVec 32)] (.tup [Enc.enc (⟨13, true, 24, 1, 200, 8⟩ : Ots), .i 0]) := by
  refine Fun_cc [ctRbytes, ctRpow, ctRbits, ctRup] mo Tryz.func155 (by decide) cc155 rs155 Tryz.ntmps155 (by simp) ?_
  refine AW_run (ctRbytes_ok (ctRpow_ok (ctRbits_ok (ctRup_ok CtOK_nil)))) 1000 ?_
  have : bitsS 192 = 8 := by decide +kernel
  simp (maxSteps := 10000000) (disch := omega) only [go_sem, c155, ctRbytes, ctRpow, ctRbits, ctRup, Int.cast_ofNat_Int, this, reduceIte, seval, -BitVec.isValue, -BitVec.reduceOfNat, -List.reduceReplicate]
theorem rOts_14 : Fun Tryz.prog Gs 155 [Enc.enc (14 : BitVec 32)] (.tup [Enc.enc (⟨14, true, 24, 2, 101, 6⟩ : Ots), .i 0]) := by
  refine Fun_cc [ctRbytes, ctRpow, ctRbits, ctRup] mo Tryz.func155 (by decide) cc155 rs155 Tryz.ntmps155 (by simp) ?_
  refine AW_run (ctRbytes_ok (ctRpow_ok (ctRbits_ok (ctRup_ok CtOK_nil)))) 1000 ?_
  have : bitsS 288 = 9 := by decide +kernel
  simp (maxSteps := 10000000) (disch := omega) only [go_sem, c155, ctRbytes, ctRpow, ctRbits, ctRup, Int.cast_ofNat_Int, this, reduceIte, seval, -BitVec.isValue, -BitVec.reduceOfNat, -List.reduceReplicate]
theorem rOts_15 : Fun Tryz.prog Gs 155 [Enc.enc (15 : BitVec 32)] (.tup [Enc.enc (⟨15, true, 24, 4, 51, 4⟩ : Ots), .i 0]) := by
  refine Fun_cc [ctRbytes, ctRpow, ctRbits, ctRup] mo Tryz.func155 (by decide) cc155 rs155 Tryz.ntmps155 (by simp) ?_
  refine AW_run (ctRbytes_ok (ctRpow_ok (ctRbits_ok (ctRup_ok CtOK_nil)))) 1000 ?_
  have : bitsS 720 = 10 := by decide +kernel
  simp (maxSteps := 10000000) (disch := omega) only [go_sem, c155, ctRbytes, ctRpow, ctRbits, ctRup, Int.cast_ofNat_Int, this, reduceIte, seval, -BitVec.isValue, -BitVec.reduceOfNat, -List.reduceReplicate]
theorem rOts_16 : Fun Tryz.prog Gs 155 [Enc.enc (16 : BitVec 32)] (.tup [Enc.enc (⟨16, true, 24, 8, 26, 0⟩ : Ots), .i 0]) := by
  refine Fun_cc [ctRbytes, ctRpow, ctRbits, ctRup] mo Tryz.func155 (by decide) cc155 rs155 Tryz.ntmps155 (by simp) ?_
  refine AW_run (ctRbytes_ok (ctRpow_ok (ctRbits_ok (ctRup_ok CtOK_nil)))) 1000 ?_
  have : bitsS 6120 = 13 := by decide +kernel
  simp (maxSteps := 10000000) (disch := omega) only [go_sem, c155, ctRbytes, ctRpow, ctRbits, ctRup, Int.cast_ofNat_Int, this, reduceIte, seval, -BitVec.isValue, -BitVec.reduceOfNat, -List.reduceReplicate]
theorem rOts_fun (c : BitVec 32) : Fun Tryz.prog Gs 155 [Enc.enc c] (otsR c) := by
  by_cases h : c = 0 ∨ 16 < c.toNat
  · have : otsT c = none := by
      unfold otsT
      rcases h with rfl | h
      · rfl
      · split <;> first | rfl | omega
    rw [otsR, this]; exact rOts_err c h
  · have h0 : c.toNat ≠ 0 := fun e => h (.inl (BitVec.eq_of_toNat_eq (by simpa using e)))
    have hc : c = BitVec.ofNat 32 c.toNat := by simp
    generalize c.toNat = k at *
    subst hc
    have hk : 1 ≤ k ∧ k ≤ 16 := by omega
    clear h h0
    obtain ⟨a, b⟩ := hk
    match k, a, b with
    | 1, _, _ => exact rOts_1
    | 2, _, _ => exact rOts_2
    | 3, _, _ => exact rOts_3
    | 4, _, _ => exact rOts_4
    | 5, _, _ => exact rOts_5
    | 6, _, _ => exact rOts_6
    | 7, _, _ => exact rOts_7
    | 8, _, _ => exact rOts_8
    | 9, _, _ => exact rOts_9
    | 10, _, _ => exact rOts_10
    | 11, _, _ => exact rOts_11
    | 12, _, _ => exact rOts_12
    | 13, _, _ => exact rOts_13
    | 14, _, _ => exact rOts_14
    | 15, _, _ => exact rOts_15
    | 16, _, _ => exact rOts_16
    | k + 17, _, hb => omega
def ctROts : Nat × (List AV → R) := (155, A1 fun c : BitVec 32 => (True, otsR c))
theorem ctROts_ok {Ct : List (Nat × (List AV → R))} (h : CtOK Tryz.prog Gs Ct) : CtOK Tryz.prog Gs (ctROts :: Ct) := CtOK_cons (Row1 fun k _ => rOts_fun k) h
theorem rMayOts_fun (o : Ots) : Fun Tryz.prog Gs 161 [Enc.enc o] (.b (decide (otsT o.code = some o))) := by
  refine Fun_cc [ctROts] mo Tryz.func161 (by decide) cc161 rs161 Tryz.ntmps161 (by simp) ?_
  refine AW_run (ctROts_ok CtOK_nil) 1000 ?_
  cases h : otsT o.code with
  | none =>
    simp (maxSteps := 10000000) (disch := omega) only [go_sem, c161, ctROts, otsR, h, ots0, reduceIte, seval, -BitVec.isValue, -BitVec.reduceOfNat, -List.reduceReplicate]
    try simp
  | some x =>
    by_cases e : x = o
    · subst e
      simp (maxSteps := 10000000) (disch := omega) only [go_sem, c161, ctROts, otsR, h, eqL, eq1, reduceIte, seval, -BitVec.isValue, -BitVec.reduceOfNat, -List.reduceReplicate]
      try simp
    · have e2 : (x.code = o.code ∧ x.shake = o.shake ∧ x.n = o.n ∧ x.w = o.w ∧ x.p = o.p ∧ x.ls = o.ls) = False := eq_false fun ⟨a, b, c, d, f, g⟩ => e (by cases x; cases o; simp_all)
      simp (maxSteps := 10000000) (disch := omega) only [go_sem, c161, ctROts, otsR, h, eqL, eq1, reduceIte, seval, -BitVec.isValue, -BitVec.reduceOfNat, -List.reduceReplicate]
      · have : (decide (x.code = o.code) && (decide (x.shake = o.shake) && (decide (x.n = o.n) && (decide (x.w = o.w) && (decide (x.p = o.p) && decide (x.ls = o.ls)))))) = false := by
          have := e2
          simp only [← Bool.decide_and]; exact decide_eq_false (of_eq_false e2)
        rw [this]; simp [e]
def ctRMayOts : Nat × (List AV → R) := (161, A1 fun o : Ots => (True, .b (decide (otsT o.code = some o))))
theorem ctRMayOts_ok {Ct : List (Nat × (List AV → R))} (h : CtOK Tryz.prog Gs Ct) : CtOK Tryz.prog Gs (ctRMayOts :: Ct) := CtOK_cons (Row1 fun k _ => rMayOts_fun k) h
def rMay (o : Ots) (b : List (BitVec 8)) : Int := if otsT o.code = some o then if (b.length : Int) = o.n then 0 else 1 else 60
end Go.Lv
namespace Go.Lv
open Go Go.Proofs
set_option linter.unusedSimpArgs false
set_option maxRecDepth 100000
def σmost (n : Int) (k : Nat) : St := ⟨[(3, .i (2 ^ k)), (5, .i n), (6, .i k)], [], 1⟩
theorem most_fun (o : Ots) (h : 0 ≤ o.w ∧ o.w ≤ 61) : Fun Tryz.prog Gs 180 [Enc.enc o] (.i (2 ^ o.w.toNat - 1)) := by
  refine Fun_cc [] mo Tryz.func180 (by decide) cc180 rs180 Tryz.ntmps180 (by simp) ?_
  refine AW_run CtOK_nil 1000 ?_
  simp (maxSteps := 10000000) (disch := omega) only [go_sem, c180, reduceIte, seval, -BitVec.isValue, -BitVec.reduceOfNat, -List.reduceReplicate]
  refine AW_loop (σmost o.w) (fun k => k ≤ o.w) (fun k => o.w.toNat - k) 0 (by omega) (Wk_p [] ?_) fun k hk => ?_
  · simp only [go_sem, σmost, reduceIte, seval, -BitVec.isValue, -BitVec.reduceOfNat, -List.reduceReplicate]
    try simp
  · refine AW_run CtOK_nil 1000 ?_
    have hp := pow_le61 (w := (k : Int)) (by omega)
    simp only [Int.toNat_natCast] at hp
    simp (maxSteps := 10000000) (disch := omega) only [go_sem, σmost, reduceIte, seval, -BitVec.isValue, -BitVec.reduceOfNat, -List.reduceReplicate]
    refine run_br (fun hb => ?_) (fun hb => ?_)
    · have hlt : (k : Int) < o.w := by simpa using hb
      simp (maxSteps := 10000000) (disch := omega) only [go_sem, reduceIte, seval, -BitVec.isValue, -BitVec.reduceOfNat, -List.reduceReplicate]
      refine ⟨k + 1, by omega, Wk_p [] ?_, by omega⟩
      simp only [go_sem, reduceIte, seval, -BitVec.isValue, -BitVec.reduceOfNat, -List.reduceReplicate]
      simp [Int.pow_succ]
    · have hge : o.w = k := by have : ¬ (k : Int) < o.w := by simpa using hb
                               omega
      simp (maxSteps := 10000000) (disch := omega) only [go_sem, hge, reduceIte, seval, -BitVec.isValue, -BitVec.reduceOfNat, -List.reduceReplicate]
def pcs (M x : Nat) : Nat → List Int
  | 0 => []
  | k + 1 => ((x / M ^ k % M : Nat) : Int) :: pcs M x k
def pcAll (w : Nat) (b : List (BitVec 8)) : List Int := b.flatMap fun x => pcs (2 ^ w) x.toNat (8 / w)
theorem pcs_len (M x : Nat) : ∀ k, (pcs M x k).length = k
  | 0 => rfl
  | k + 1 => by simp [pcs, pcs_len M x k]
theorem pcAll_len (w : Nat) : ∀ b : List (BitVec 8), (pcAll w b).length = b.length * (8 / w)
  | [] => by simp [pcAll]
  | x :: b => by
    have := pcAll_len w b
    simp only [pcAll] at this
    simp only [pcAll, List.flatMap_cons, List.length_append, pcs_len, this, List.length_cons, Nat.add_mul]; omega
theorem bg1 (n : BitVec 64) (j : Nat) : ((n >>> (8 * j)) % 256#64).setWidth 8 = byteAt n j := by
  apply BitVec.eq_of_toNat_eq
  simp [byteAt, BitVec.toNat_umod, BitVec.toNat_ushiftRight]
theorem bg2 (n : BitVec 64) (j : Nat) : (n >>> (8 * j)) / 256#64 = n >>> (8 * (j + 1)) := by
  apply BitVec.eq_of_toNat_eq
  simp only [BitVec.toNat_udiv, BitVec.toNat_ushiftRight, Nat.shiftRight_eq_div_pow, Nat.mul_add, Nat.pow_add, Nat.div_div_eq_div_mul]
  rfl
def σrbig (n : BitVec 64) (k j : Nat) : St := ⟨[(0, .u64 (n >>> (8 * j))), (5, .sl 0 0 k 1), (6, .i ((k : Int) - 1 - j))], [(0, ⟨(bigC n k j).map .u8, true⟩)], 1⟩
theorem rBig_fun (n : BitVec 64) (k : Nat) (hk : k ≤ 1000000) : Fun Tryz.prog Gs 106 [Enc.enc n, Enc.enc (k : Int)] (Enc.ret (bigL n k)) := by
  refine Fun_cc [] mo Tryz.func106 (by decide) cc106 rs106 Tryz.ntmps106 (by simp) ?_
  refine AW_run CtOK_nil 1000 ?_
  simp (maxSteps := 10000000) (disch := omega) only [go_sem, c106, reduceIte, seval, -BitVec.isValue, -BitVec.reduceOfNat, -List.reduceReplicate]
  refine AW_loop (σrbig n k) (fun j => j ≤ k) (fun j => k - j) 0 (Nat.zero_le _) (Wk_p [] ?_) fun j hj => ?_
  · simp only [go_sem, σrbig, bigC_zero, reduceIte, seval, -BitVec.isValue, -BitVec.reduceOfNat, -List.reduceReplicate]
    try simp
  · refine AW_run CtOK_nil 1000 ?_
    simp (maxSteps := 10000000) (disch := omega) only [go_sem, σrbig, reduceIte, seval, -BitVec.isValue, -BitVec.reduceOfNat, -List.reduceReplicate]
    refine run_br (fun hb => ?_) (fun hb => ?_)
    · have hlt : j < k := by have := of_decide_eq_true hb; omega
      have hl := bigC_len n k j
      simp (maxSteps := 10000000) (disch := omega) only [go_sem, reduceIte, seval, -BitVec.isValue, -BitVec.reduceOfNat, -List.reduceReplicate]
      have e1 : ((k : Int) - 1 - j).toNat = k - 1 - j := by omega
      refine ⟨j + 1, by omega, Wk_p [] ?_, by omega⟩
      simp only [go_sem, reduceIte, seval, -BitVec.isValue, -BitVec.reduceOfNat, -List.reduceReplicate]
      simp [e1, ← bigC_set n k j hlt, ← bg1, ← bg2]
      try omega
    · have hge : j = k := by have := of_decide_eq_false hb; omega
      subst hge
      have hl := bigL_len n j
      simp (maxSteps := 10000000) (disch := omega) only [go_sem, bigC_all, reduceIte, seval, -BitVec.isValue, -BitVec.reduceOfNat, -List.reduceReplicate]
      simp [← List.map_take, List.take_of_length_le, hl]
def ctRBig : Nat × (List AV → R) := (106, A2 fun (n : BitVec 64) (k : Int) => (0 ≤ k ∧ k ≤ 1000000, Enc.ret (bigL n k.toNat)))
theorem ctRBig_ok {Ct : List (Nat × (List AV → R))} (h : CtOK Tryz.prog Gs Ct) : CtOK Tryz.prog Gs (ctRBig :: Ct) := CtOK_cons (Row2 fun n k h => by
  obtain ⟨k, rfl⟩ := Int.eq_ofNat_of_zero_le h.1
  exact rBig_fun n k (by have := h.2; omega)) h
def ctMost : Nat × (List AV → R) := (180, A1 fun o : Ots => (0 ≤ o.w ∧ o.w ≤ 61, .i (2 ^ o.w.toNat - 1)))
theorem ctMost_ok {Ct : List (Nat × (List AV → R))} (h : CtOK Tryz.prog Gs Ct) : CtOK Tryz.prog Gs (ctMost :: Ct) := CtOK_cons (Row1 fun o h => most_fun o h) h
end Go.Lv
namespace Go.Lv
open Go Go.Proofs
set_option linter.unusedSimpArgs false
set_option maxRecDepth 100000
def rdigC (o : Ots) (sum : List (BitVec 8)) : Int := sumS o.w.toNat (pcAll o.w.toNat sum) * 2 ^ o.ls.toNat
def rdigS (o : Ots) (sum : List (BitVec 8)) : List Int := (pcAll o.w.toNat sum ++ pcAll o.w.toNat (bigL (BitVec.ofInt 64 (rdigC o sum)) 2)).take o.p.toNat
theorem pcs_eq {w : Int} (hw : wOK w) (x : BitVec 8) : pcs (2 ^ w.toNat) x.toNat (8 / w.toNat) = digs w.toNat x (8 / w.toNat) := by
  have h : ∀ w : Fin 9, w.val = 1 ∨ w.val = 2 ∨ w.val = 4 ∨ w.val = 8 → ∀ x : Fin 256, pcs (2 ^ w.val) x.val (8 / w.val) = digs w.val (BitVec.ofFin (w := 8) x) (8 / w.val) := by decide +kernel
  have hw2 : w.toNat = 1 ∨ w.toNat = 2 ∨ w.toNat = 4 ∨ w.toNat = 8 := by unfold wOK at hw; omega
  have := h ⟨w.toNat, by omega⟩ hw2 x.toFin
  simpa using this
theorem pcAll_eq {w : Int} (hw : wOK w) (b : List (BitVec 8)) : pcAll w.toNat b = cutAll w.toNat b := by
  simp only [pcAll, cutAll, pcs_eq hw]
theorem bigL2 (c : Int) : bigL ((BitVec.ofInt 16 c).setWidth 64) 2 = bigL (BitVec.ofInt 64 c) 2 := by
  have e : BitVec.ofInt 16 c = (BitVec.ofInt 64 c).setWidth 16 := by
    apply BitVec.eq_of_toNat_eq
    simp only [BitVec.toNat_ofInt, BitVec.toNat_setWidth]
    omega
  rw [e]
  generalize BitVec.ofInt 64 c = x
  have h : ∀ i, i < 2 → byteAt ((x.setWidth 16).setWidth 64) i = byteAt x i := by
    intro i hi
    apply BitVec.eq_of_toNat_eq
    simp only [byteAt, BitVec.toNat_setWidth, BitVec.toNat_ushiftRight, Nat.shiftRight_eq_div_pow]
    have := x.isLt
    rcases (by omega : i = 0 ∨ i = 1) with rfl | rfl <;> omega
  simp only [bigL, List.range_succ, List.range_zero, List.nil_append, List.cons_append, List.map_cons, List.map_nil]
  rw [h _ (by omega), h _ (by omega)]
theorem dig_law (o : Ots) (sum : List (BitVec 8)) (ho : OtsOK o) (hs : (sum.length : Int) = o.n) : rdigS o sum = digS o sum := by
  have hw := ho.w
  have hw1 : 0 < o.w ∧ o.w ≤ 8 := by rcases hw with h | h | h | h <;> omega
  have hlen := pcAll_len o.w.toNat sum
  rw [pcAll_eq hw] at hlen
  have hle : (cutAll o.w.toNat sum).length ≤ o.p.toNat := by
    rw [hlen]
    have hu := ho.u
    have h8 := (bits8 hw).1
    rcases hw with h | h | h | h <;> rw [h] at hu ⊢ <;> simp only [Int.toNat_one, Int.reduceToNat, Nat.reduceDiv] <;> omega
  have e1 : cutS o.w.toNat sum o.p = cutAll o.w.toNat sum := List.take_of_length_le hle
  rw [rdigS, digS, rdigC, pcAll_eq hw, pcAll_eq hw, e1, bigL2, List.take_append, List.take_of_length_le hle, cutS]
  congr 2
  omega
theorem digS_len (o : Ots) (sum : List (BitVec 8)) (ho : OtsOK o) (hs : (sum.length : Int) = o.n) : ((digS o sum).length : Int) = o.p := by
  rw [← dig_law o sum ho hs, rdigS, List.length_take, List.length_append, pcAll_len, pcAll_len, bigL_len]
  have hp := ho.p
  have hp2 := ho.u2
  rcases ho.w with h | h | h | h <;> rw [h] at hp2 ⊢ <;> simp only [Int.toNat_one, Int.reduceToNat, Nat.reduceDiv] <;> omega
end Go.Lv
