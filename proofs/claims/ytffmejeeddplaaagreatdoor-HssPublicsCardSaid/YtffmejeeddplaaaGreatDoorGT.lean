/- A part of the proof (GT). -/
import Derived.Test.YtffmejeeddplaaaGreatDoorFD
import Derived.Test.YtffmejeeddplaaaGreatDoorGK
set_option linter.all false
namespace Go.Lv
open Go Go.Proofs
set_option linter.unusedSimpArgs false
set_option maxRecDepth 100000
theorem mo : Tryz.prog.follows .mixedOrders = true := by kernel_rfl
theorem pow_le61 {w : Int} (h : w ≤ 61) : 0 < (2 : Int) ^ w.toNat ∧ (2 : Int) ^ w.toNat ≤ 2305843009213693952 := by
  have h1 : (2 : Nat) ^ w.toNat ≤ 2 ^ 61 := Nat.pow_le_pow_right (by omega) (by omega)
  have h2 : (2 : Int) ^ w.toNat = (((2 : Nat) ^ w.toNat : Nat) : Int) := by simp
  have h3 : 0 < (2 : Nat) ^ w.toNat := Nat.pow_pos (by omega)
  rw [h2]; omega
theorem top_fun (o : Ots) (h : 0 ≤ o.w) (h2 : o.w ≤ 61) : Fun Tryz.prog Gs 198 [Enc.enc o] (.i (2 ^ o.w.toNat - 1)) := by
  refine Fun_cc [] mo Tryz.func198 (by decide) cc198 rs198 Tryz.ntmps198 (by simp) ?_
  refine AW_run CtOK_nil 1000 ?_
  obtain ⟨p1, p2⟩ := pow_le61 h2
  simp (maxSteps := 10000000) (disch := omega) only [go_sem, c198, Int.one_mul, reduceIte, seval, -BitVec.isValue, -BitVec.reduceOfNat, -List.reduceReplicate]
end Go.Lv
namespace Go.Lv
open Go Go.Proofs
set_option linter.unusedSimpArgs false
set_option maxRecDepth 100000
def bigC (n : BitVec 64) (k j : Nat) : List (BitVec 8) := (List.range k).map fun i => if k - 1 - i < j then byteAt n (k - 1 - i) else 0
theorem bigC_len (n : BitVec 64) (k j : Nat) : (bigC n k j).length = k := by simp [bigC]
theorem bigC_zero (n : BitVec 64) (k : Nat) : bigC n k 0 = List.replicate k 0 := by
  apply List.ext_getElem
  · simp [bigC]
  · intro i h1 h2; simp [bigC]
theorem bigC_all (n : BitVec 64) (k : Nat) : bigC n k k = bigL n k := by
  apply List.ext_getElem
  · simp [bigC, bigL]
  · intro i h1 h2
    have : i < k := by simpa [bigC] using h1
    simp [bigC, bigL]; omega
theorem bigC_set (n : BitVec 64) (k j : Nat) (h : j < k) : (bigC n k j).set (k - 1 - j) (byteAt n j) = bigC n k (j + 1) := by
  apply List.ext_getElem
  · simp [bigC]
  · intro i h1 h2
    have hi : i < k := by simpa [bigC] using h1
    rw [List.getElem_set]
    by_cases e : k - 1 - j = i
    · have : k - 1 - i = j := by omega
      simp [e, bigC, this]
    · rw [if_neg e]
      have : (k - 1 - i < j + 1) = (k - 1 - i < j) := by apply propext; omega
      simp [bigC, this]
def σbig (n : BitVec 64) (k j : Nat) : St := ⟨[(0, .u64 n), (1, .i k), (5, .sl 0 0 k 1), (10, .i k), (11, .i j)], [(0, ⟨(bigC n k j).map .u8, true⟩)], 1⟩
theorem big_fun (n : BitVec 64) (k : Nat) (hk : k ≤ 1000000) : Fun Tryz.prog Gs 135 [Enc.enc n, Enc.enc (k : Int)] (Enc.ret (bigL n k)) := by
  refine Fun_cc [] mo Tryz.func135 (by decide) cc135 rs135 Tryz.ntmps135 (by simp) ?_
  refine AW_run CtOK_nil 1000 ?_
  simp (maxSteps := 10000000) (disch := omega) only [go_sem, c135, reduceIte, seval, -BitVec.isValue, -BitVec.reduceOfNat, -List.reduceReplicate]
  refine AW_loop (σbig n k) (fun j => j ≤ k) (fun j => k - j) 0 (Nat.zero_le _) (Wk_p [] ?_) fun j hj => ?_
  · simp only [go_sem, σbig, bigC_zero, reduceIte, seval, -BitVec.isValue, -BitVec.reduceOfNat, -List.reduceReplicate]
    try simp
  · refine AW_run CtOK_nil 1000 ?_
    simp (maxSteps := 10000000) (disch := omega) only [go_sem, σbig, reduceIte, seval, -BitVec.isValue, -BitVec.reduceOfNat, -List.reduceReplicate]
    refine run_br (fun hb => ?_) (fun hb => ?_)
    · have hlt : j < k := by simpa using hb
      have hl := bigC_len n k j
      simp (maxSteps := 10000000) (disch := omega) only [go_sem, reduceIte, seval, -BitVec.isValue, -BitVec.reduceOfNat, -List.reduceReplicate]
      have e1 : ((k : Int) - 1 - j).toNat = k - 1 - j := by omega
      have e2 : (8 * (j : Int)).toNat = 8 * j := by omega
      refine ⟨j + 1, by omega, Wk_p [] ?_, by omega⟩
      simp only [go_sem, reduceIte, seval, -BitVec.isValue, -BitVec.reduceOfNat, -List.reduceReplicate]
      simp [e1, e2, ← bigC_set n k j hlt, byteAt]
    · have hge : j = k := by have : ¬ j < k := by simpa using hb
                             omega
      subst hge
      have hl := bigL_len n j
      simp (maxSteps := 10000000) (disch := omega) only [go_sem, bigC_all, reduceIte, seval, -BitVec.isValue, -BitVec.reduceOfNat, -List.reduceReplicate]
      trace_state
      simp [← List.map_take, List.take_of_length_le, hl]
theorem U16_fun (n : BitVec 16) : Fun Tryz.prog Gs 202 [Enc.enc n] (Enc.ret (bigL (n.setWidth 64) 2)) := by
  refine Fun_cc [(135, A2 fun (n : BitVec 64) (k : Int) => (0 ≤ k ∧ k ≤ 1000000, Enc.ret (bigL n k.toNat)))] mo Tryz.func202 (by decide) cc202 rs202 Tryz.ntmps202 (by simp) ?_
  refine AW_run (CtOK_cons (Row2 fun n k h => ?_) CtOK_nil) 1000 ?_
  · obtain ⟨k, rfl⟩ := Int.eq_ofNat_of_zero_le h.1
    exact big_fun n k (by have := h.2; omega)
  · simp (maxSteps := 10000000) (disch := omega) only [go_sem, c202, reduceIte, seval, -BitVec.isValue, -BitVec.reduceOfNat, -List.reduceReplicate]
end Go.Lv
namespace Go.Lv
open Go Go.Proofs
set_option linter.unusedSimpArgs false
set_option maxRecDepth 100000
def hashedS (k : Int) : Bool × Int := if k = 3 then (true, 24) else if k = 2 then (true, 32) else if k = 1 then (false, 24) else (false, 32)
theorem hashed_fun (k : Int) : Fun Tryz.prog Gs 132 [Enc.enc k] (.tup [.b (hashedS k).1, .i (hashedS k).2]) := by
  refine Fun_cc [] mo Tryz.func132 (by decide) cc132 rs132 Tryz.ntmps132 (by simp) ?_
  refine AW_run CtOK_nil 1000 ?_
  by_cases h3 : k = 3
  · subst h3; simp (maxSteps := 10000000) (disch := omega) only [go_sem, c132, reduceIte, seval, -BitVec.isValue, -BitVec.reduceOfNat, -List.reduceReplicate]; simp [hashedS]
  · by_cases h2 : k = 2
    · subst h2; simp (maxSteps := 10000000) (disch := omega) only [go_sem, c132, reduceIte, seval, -BitVec.isValue, -BitVec.reduceOfNat, -List.reduceReplicate]; simp [hashedS]
    · by_cases h1 : k = 1
      · subst h1; simp (maxSteps := 10000000) (disch := omega) only [go_sem, c132, reduceIte, seval, -BitVec.isValue, -BitVec.reduceOfNat, -List.reduceReplicate]; simp [hashedS]
      · simp (maxSteps := 10000000) (disch := omega) only [go_sem, c132, reduceIte, seval, -BitVec.isValue, -BitVec.reduceOfNat, -List.reduceReplicate]; simp [hashedS, h1, h2, h3]
def ctHashed : Nat × (List AV → R) := (132, A1 fun k : Int => (True, .tup [.b (hashedS k).1, .i (hashedS k).2]))
theorem ctHashed_ok {Ct : List (Nat × (List AV → R))} (h : CtOK Tryz.prog Gs Ct) : CtOK Tryz.prog Gs (ctHashed :: Ct) := CtOK_cons (Row1 fun k _ => hashed_fun k) h
def otsT (c : BitVec 32) : Option Ots := match c.toNat with
  | 1 => some ⟨1, false, 32, 1, 265, 7⟩
  | 2 => some ⟨2, false, 32, 2, 133, 6⟩
  | 3 => some ⟨3, false, 32, 4, 67, 4⟩
  | 4 => some ⟨4, false, 32, 8, 34, 0⟩
  | 5 => some ⟨5, false, 24, 1, 200, 8⟩
  | 6 => some ⟨6, false, 24, 2, 101, 6⟩
  | 7 => some ⟨7, false, 24, 4, 51, 4⟩
  | 8 => some ⟨8, false, 24, 8, 26, 0⟩
  | 9 => some ⟨9, true, 32, 1, 265, 7⟩
  | 10 => some ⟨10, true, 32, 2, 133, 6⟩
  | 11 => some ⟨11, true, 32, 4, 67, 4⟩
  | 12 => some ⟨12, true, 32, 8, 34, 0⟩
  | 13 => some ⟨13, true, 24, 1, 200, 8⟩
  | 14 => some ⟨14, true, 24, 2, 101, 6⟩
  | 15 => some ⟨15, true, 24, 4, 51, 4⟩
  | 16 => some ⟨16, true, 24, 8, 26, 0⟩
  | _ => none
def ots0 : Ots := ⟨0, false, 0, 0, 0, 0⟩
def otsR (c : BitVec 32) : AV := match otsT c with
  | some o => .tup [Enc.enc o, .i 0]
  | none => .tup [Enc.enc ots0, .i 60]
theorem Ots_1 : Fun Tryz.prog Gs 188 [Enc.enc (1 : BitVec 32)] (.tup [Enc.enc (⟨1, false, 32, 1, 265, 7⟩ : Ots), .i 0]) := by
  refine Fun_cc [ctHashed] mo Tryz.func188 (by decide) cc188 rs188 Tryz.ntmps188 (by simp) ?_
  refine AW_run (ctHashed_ok CtOK_nil) 1000 ?_
  simp (maxSteps := 10000000) (disch := omega) only [go_sem, c188, ctHashed, hashedS, Int.cast_ofNat_Int, reduceIte, seval, -BitVec.isValue, -BitVec.reduceOfNat, -List.reduceReplicate]
  refine AW_unr 20 ?_
  repeat (refine Unr_run (ctHashed_ok CtOK_nil) 1000 ?_; simp (maxSteps := 10000000) (disch := omega) only [go_sem, Int.cast_ofNat_Int, reduceIte, seval, -BitVec.isValue, -BitVec.reduceOfNat, -List.reduceReplicate])
theorem Ots_2 : Fun Tryz.prog Gs 188 [Enc.enc (2 : BitVec 32)] (.tup [Enc.enc (⟨2, false, 32, 2, 133, 6⟩ : Ots), .i 0]) := by
  refine Fun_cc [ctHashed] mo Tryz.func188 (by decide) cc188 rs188 Tryz.ntmps188 (by simp) ?_
  refine AW_run (ctHashed_ok CtOK_nil) 1000 ?_
  simp (maxSteps := 10000000) (disch := omega) only [go_sem, c188, ctHashed, hashedS, Int.cast_ofNat_Int, reduceIte, seval, -BitVec.isValue, -BitVec.reduceOfNat, -List.reduceReplicate]
  refine AW_unr 20 ?_
  repeat (refine Unr_run (ctHashed_ok CtOK_nil) 1000 ?_; simp (maxSteps := 10000000) (disch := omega) only [go_sem, Int.cast_ofNat_Int, reduceIte, seval, -BitVec.isValue, -BitVec.reduceOfNat, -List.reduceReplicate])
theorem Ots_3 : Fun Tryz.prog Gs 188 [Enc.enc (3 : BitVec 32)] (.tup [Enc.enc (⟨3, false, 32, 4, 67, 4⟩ : Ots), .i 0]) := by
  refine Fun_cc [ctHashed] mo Tryz.func188 (by decide) cc188 rs188 Tryz.ntmps188 (by simp) ?_
  refine AW_run (ctHashed_ok CtOK_nil) 1000 ?_
  simp (maxSteps := 10000000) (disch := omega) only [go_sem, c188, ctHashed, hashedS, Int.cast_ofNat_Int, reduceIte, seval, -BitVec.isValue, -BitVec.reduceOfNat, -List.reduceReplicate]
  refine AW_unr 20 ?_
  repeat (refine Unr_run (ctHashed_ok CtOK_nil) 1000 ?_; simp (maxSteps := 10000000) (disch := omega) only [go_sem, Int.cast_ofNat_Int, reduceIte, seval, -BitVec.isValue, -BitVec.reduceOfNat, -List.reduceReplicate])
theorem Ots_4 : Fun Tryz.prog Gs 188 [Enc.enc (4 : BitVec 32)] (.tup [Enc.enc (⟨4, false, 32, 8, 34, 0⟩ : Ots), .i 0]) := by
  refine Fun_cc [ctHashed] mo Tryz.func188 (by decide) cc188 rs188 Tryz.ntmps188 (by simp) ?_
  refine AW_run (ctHashed_ok CtOK_nil) 1000 ?_
  simp (maxSteps := 10000000) (disch := omega) only [go_sem, c188, ctHashed, hashedS, Int.cast_ofNat_Int, reduceIte, seval, -BitVec.isValue, -BitVec.reduceOfNat, -List.reduceReplicate]
  refine AW_unr 20 ?_
  repeat (refine Unr_run (ctHashed_ok CtOK_nil) 1000 ?_; simp (maxSteps := 10000000) (disch := omega) only [go_sem, Int.cast_ofNat_Int, reduceIte, seval, -BitVec.isValue, -BitVec.reduceOfNat, -List.reduceReplicate])
theorem Ots_5 : Fun Tryz.prog Gs 188 [Enc.enc (5 : BitVec 32)] (.tup [Enc.enc (⟨5, false, 24, 1, 200, 8⟩ : Ots), .i 0]) := by
  refine Fun_cc [ctHashed] mo Tryz.func188 (by decide) cc188 rs188 Tryz.ntmps188 (by simp) ?_
  refine AW_run (ctHashed_ok CtOK_nil) 1000 ?_
  simp (maxSteps := 10000000) (disch := omega) only [go_sem, c188, ctHashed, hashedS, Int.cast_ofNat_Int, reduceIte, seval, -BitVec.isValue, -BitVec.reduceOfNat, -List.reduceReplicate]
  refine AW_unr 20 ?_
  repeat (refine Unr_run (ctHashed_ok CtOK_nil) 1000 ?_; simp (maxSteps := 10000000) (disch := omega) only [go_sem, Int.cast_ofNat_Int, reduceIte, seval, -BitVec.isValue, -BitVec.reduceOfNat, -List.reduceReplicate])
theorem Ots_6 : Fun Tryz.prog Gs 188 [Enc.enc (6 : BitVec 32)] (.tup [Enc.enc (⟨6, false, 24, 2, 101, 6⟩ : Ots), .i 0]) := by
  refine Fun_cc [ctHashed] mo Tryz.func188 (by decide) cc188 rs188 Tryz.ntmps188 (by simp) ?_
  refine AW_run (ctHashed_ok CtOK_nil) 1000 ?_
  simp (maxSteps := 10000000) (disch := omega) only [go_sem, c188, ctHashed, hashedS, Int.cast_ofNat_Int, reduceIte, seval, -BitVec.isValue, -BitVec.reduceOfNat, -List.reduceReplicate]
  refine AW_unr 20 ?_
  repeat (refine Unr_run (ctHashed_ok CtOK_nil) 1000 ?_; simp (maxSteps := 10000000) (disch := omega) only [go_sem, Int.cast_ofNat_Int, reduceIte, seval, -BitVec.isValue, -BitVec.reduceOfNat, -List.reduceReplicate])
theorem Ots_7 : Fun Tryz.prog Gs 188 [Enc.enc (7 : BitVec 32)] (.tup [Enc.enc (⟨7, false, 24, 4, 51, 4⟩ : Ots), .i 0]) := by
  refine Fun_cc [ctHashed] mo Tryz.func188 (by decide) cc188 rs188 Tryz.ntmps188 (by simp) ?_
  refine AW_run (ctHashed_ok CtOK_nil) 1000 ?_
  simp (maxSteps := 10000000) (disch := omega) only [go_sem, c188, ctHashed, hashedS, Int.cast_ofNat_Int, reduceIte, seval, -BitVec.isValue, -BitVec.reduceOfNat, -List.reduceReplicate]
  refine AW_unr 20 ?_
  repeat (refine Unr_run (ctHashed_ok CtOK_nil) 1000 ?_; simp (maxSteps := 10000000) (disch := omega) only [go_sem, Int.cast_ofNat_Int, reduceIte, seval, -BitVec.isValue, -BitVec.reduceOfNat, -List.reduceReplicate])
theorem Ots_8 : Fun Tryz.prog Gs 188 [Enc.enc (8 : BitVec 32)] (.tup [Enc.enc (⟨8, false, 24, 8, 26, 0⟩ : Ots), .i 0]) := by
  refine Fun_cc [ctHashed] mo Tryz.func188 (by decide) cc188 rs188 Tryz.ntmps188 (by simp) ?_
  refine AW_run (ctHashed_ok CtOK_nil) 1000 ?_
  simp (maxSteps := 10000000) (disch := omega) only [go_sem, c188, ctHashed, hashedS, Int.cast_ofNat_Int, reduceIte, seval, -BitVec.isValue, -BitVec.reduceOfNat, -List.reduceReplicate]
  refine AW_unr 20 ?_
  repeat (refine Unr_run (ctHashed_ok CtOK_nil) 1000 ?_; simp (maxSteps := 10000000) (disch := omega) only [go_sem, Int.cast_ofNat_Int, reduceIte, seval, -BitVec.isValue, -BitVec.reduceOfNat, -List.reduceReplicate])
theorem Ots_9 : Fun Tryz.prog Gs 188 [Enc.enc (9 : BitVec 32)] (.tup [Enc.enc (⟨9, true, 32, 1, 265, 7⟩ : Ots), .i 0]) := by
  refine Fun_cc [ctHashed] mo Tryz.func188 (by decide) cc188 rs188 Tryz.ntmps188 (by simp) ?_
  refine AW_run (ctHashed_ok CtOK_nil) 1000 ?_
  simp (maxSteps := 10000000) (disch := omega) only [go_sem, c188, ctHashed, hashedS, Int.cast_ofNat_Int, reduceIte, seval, -BitVec.isValue, -BitVec.reduceOfNat, -List.reduceReplicate]
  refine AW_unr 20 ?_
  repeat (refine Unr_run (ctHashed_ok CtOK_nil) 1000 ?_; simp (maxSteps := 10000000) (disch := omega) only [go_sem, Int.cast_ofNat_Int, reduceIte, seval, -BitVec.isValue, -BitVec.reduceOfNat, -List.reduceReplicate])
theorem Ots_10 : Fun Tryz.prog Gs 188 [Enc.enc (10 : BitVec 32)] (.tup [Enc.enc (⟨10, true, 32, 2, 133, 6⟩ : Ots), .i 0]) := by
  refine Fun_cc [ctHashed] mo Tryz.func188 (by decide) cc188 rs188 Tryz.ntmps188 (by simp) ?_
  refine AW_run (ctHashed_ok CtOK_nil) 1000 ?_
  simp (maxSteps := 10000000) (disch := omega) only [go_sem, c188, ctHashed, hashedS, Int.cast_ofNat_Int, reduceIte, seval, -BitVec.isValue, -BitVec.reduceOfNat, -List.reduceReplicate]
  refine AW_unr 20 ?_
  repeat (refine Unr_run (ctHashed_ok CtOK_nil) 1000 ?_; simp (maxSteps := 10000000) (disch := omega) only [go_sem, Int.cast_ofNat_Int, reduceIte, seval, -BitVec.isValue, -BitVec.reduceOfNat, -List.reduceReplicate])
theorem Ots_11 : Fun Tryz.prog Gs 188 [Enc.enc (11 : BitVec 32)] (.tup [Enc.enc (⟨11, true, 32, 4, 67, 4⟩ : Ots), .i 0]) := by
  refine Fun_cc [ctHashed] mo Tryz.func188 (by decide) cc188 rs188 Tryz.ntmps188 (by simp) ?_
  refine AW_run (ctHashed_ok CtOK_nil) 1000 ?_
  simp (maxSteps := 10000000) (disch := omega) only [go_sem, c188, ctHashed, hashedS, Int.cast_ofNat_Int, reduceIte, seval, -BitVec.isValue, -BitVec.reduceOfNat, -List.reduceReplicate]
  refine AW_unr 20 ?_
  repeat (refine Unr_run (ctHashed_ok CtOK_nil) 1000 ?_; simp (maxSteps := 10000000) (disch := omega) only [go_sem, Int.cast_ofNat_Int, reduceIte, seval, -BitVec.isValue, -BitVec.reduceOfNat, -List.reduceReplicate])
theorem Ots_12 : Fun Tryz.prog Gs 188 [Enc.enc (12 : BitVec 32)] (.tup [Enc.enc (⟨12, true, 32, 8, 34, 0⟩ : Ots), .i 0]) := by
  refine Fun_cc [ctHashed] mo Tryz.func188 (by decide) cc188 rs188 Tryz.ntmps188 (by simp) ?_
  refine AW_run (ctHashed_ok CtOK_nil) 1000 ?_
  simp (maxSteps := 10000000) (disch := omega) only [go_sem, c188, ctHashed, hashedS, Int.cast_ofNat_Int, reduceIte, seval, -BitVec.isValue, -BitVec.reduceOfNat, -List.reduceReplicate]
  refine AW_unr 20 ?_
  repeat (refine Unr_run (ctHashed_ok CtOK_nil) 1000 ?_; simp (maxSteps := 10000000) (disch := omega) only [go_sem, Int.cast_ofNat_Int, reduceIte, seval, -BitVec.isValue, -BitVec.reduceOfNat, -List.reduceReplicate])
theorem Ots_13 : Fun Tryz.prog Gs 188 [Enc.enc (13 : BitVec 32)] (.tup [Enc.enc (⟨13, true, 24, 1, 200, 8⟩ : Ots), .i 0]) := by
  refine Fun_cc [ctHashed] mo Tryz.func188 (by decide) cc188 rs188 Tryz.ntmps188 (by simp) ?_
  refine AW_run (ctHashed_ok CtOK_nil) 1000 ?_
  simp (maxSteps := 10000000) (disch := omega) only [go_sem, c188, ctHashed, hashedS, Int.cast_ofNat_Int, reduceIte, seval, -BitVec.isValue, -BitVec.reduceOfNat, -List.reduceReplicate]
  refine AW_unr 20 ?_
  repeat (refine Unr_run (ctHashed_ok CtOK_nil) 1000 ?_; simp (maxSteps := 10000000) (disch := omega) only [go_sem, Int.cast_ofNat_Int, reduceIte, seval, -BitVec.isValue, -BitVec.reduceOfNat, -List.reduceReplicate])
theorem Ots_14 : Fun Tryz.prog Gs 188 [Enc.enc (14 : BitVec 32)] (.tup [Enc.enc (⟨14, true, 24, 2, 101, 6⟩ : Ots), .i 0]) := by
  refine Fun_cc [ctHashed] mo Tryz.func188 (by decide) cc188 rs188 Tryz.ntmps188 (by simp) ?_
  refine AW_run (ctHashed_ok CtOK_nil) 1000 ?_
  simp (maxSteps := 10000000) (disch := omega) only [go_sem, c188, ctHashed, hashedS, Int.cast_ofNat_Int, reduceIte, seval, -BitVec.isValue, -BitVec.reduceOfNat, -List.reduceReplicate]
  refine AW_unr 20 ?_
  repeat (refine Unr_run (ctHashed_ok CtOK_nil) 1000 ?_; simp (maxSteps := 10000000) (disch := omega) only [go_sem, Int.cast_ofNat_Int, reduceIte, seval, -BitVec.isValue, -BitVec.reduceOfNat, -List.reduceReplicate])
theorem Ots_15 : Fun Tryz.prog Gs 188 [Enc.enc (15 : BitVec 32)] (.tup [Enc.enc (⟨15, true, 24, 4, 51, 4⟩ : Ots), .i 0]) := by
  refine Fun_cc [ctHashed] mo Tryz.func188 (by decide) cc188 rs188 Tryz.ntmps188 (by simp) ?_
  refine AW_run (ctHashed_ok CtOK_nil) 1000 ?_
  simp (maxSteps := 10000000) (disch := omega) only [go_sem, c188, ctHashed, hashedS, Int.cast_ofNat_Int, reduceIte, seval, -BitVec.isValue, -BitVec.reduceOfNat, -List.reduceReplicate]
  refine AW_unr 20 ?_
  repeat (refine Unr_run (ctHashed_ok CtOK_nil) 1000 ?_; simp (maxSteps := 10000000) (disch := omega) only [go_sem, Int.cast_ofNat_Int, reduceIte, seval, -BitVec.isValue, -BitVec.reduceOfNat, -List.reduceReplicate])
theorem Ots_16 : Fun Tryz.prog Gs 188 [Enc.enc (16 : BitVec 32)] (.tup [Enc.enc (⟨16, true, 24, 8, 26, 0⟩ : Ots), .i 0]) := by
  refine Fun_cc [ctHashed] mo Tryz.func188 (by decide) cc188 rs188 Tryz.ntmps188 (by simp) ?_
  refine AW_run (ctHashed_ok CtOK_nil) 1000 ?_
  simp (maxSteps := 10000000) (disch := omega) only [go_sem, c188, ctHashed, hashedS, Int.cast_ofNat_Int, reduceIte, seval, -BitVec.isValue, -BitVec.reduceOfNat, -List.reduceReplicate]
  refine AW_unr 20 ?_
  repeat (refine Unr_run (ctHashed_ok CtOK_nil) 1000 ?_; simp (maxSteps := 10000000) (disch := omega) only [go_sem, Int.cast_ofNat_Int, reduceIte, seval, -BitVec.isValue, -BitVec.reduceOfNat, -List.reduceReplicate])
end Go.Lv
namespace Go.Lv
open Go Go.Proofs
set_option linter.unusedSimpArgs false
set_option maxRecDepth 100000
theorem Ots_err (c : BitVec 32) (h : c = 0 ∨ 16 < c.toNat) : Fun Tryz.prog Gs 188 [Enc.enc c] (.tup [Enc.enc ots0, .i 60]) := by
  refine Fun_cc [ctHashed] mo Tryz.func188 (by decide) cc188 rs188 Tryz.ntmps188 (by simp) ?_
  refine AW_run (ctHashed_ok CtOK_nil) 1000 ?_
  rcases h with rfl | h
  · simp (maxSteps := 10000000) (disch := omega) only [go_sem, c188, ots0, reduceIte, seval, -BitVec.isValue, -BitVec.reduceOfNat, -List.reduceReplicate]
  · have h1 : ¬ (c < 1#32) := by rw [BitVec.lt_def]; simp; omega
    have h2 : (16#32 < c) := by rw [BitVec.lt_def]; simpa using h
    simp (maxSteps := 10000000) (disch := omega) only [go_sem, c188, ots0, h1, h2, reduceIte, seval, -BitVec.isValue, -BitVec.reduceOfNat, -List.reduceReplicate]
theorem Ots_fun (c : BitVec 32) : Fun Tryz.prog Gs 188 [Enc.enc c] (otsR c) := by
  by_cases h : c = 0 ∨ 16 < c.toNat
  · have : otsT c = none := by
      unfold otsT
      rcases h with rfl | h
      · rfl
      · split <;> first | rfl | omega
    rw [otsR, this]; exact Ots_err c h
  · have h0 : c.toNat ≠ 0 := fun e => h (.inl (BitVec.eq_of_toNat_eq (by simpa using e)))
    have hc : c = BitVec.ofNat 32 c.toNat := by simp
    generalize c.toNat = k at *
    subst hc
    have hk : 1 ≤ k ∧ k ≤ 16 := by omega
    clear h h0
    obtain ⟨a, b⟩ := hk
    match k, a, b with
    | 1, _, _ => exact Ots_1
    | 2, _, _ => exact Ots_2
    | 3, _, _ => exact Ots_3
    | 4, _, _ => exact Ots_4
    | 5, _, _ => exact Ots_5
    | 6, _, _ => exact Ots_6
    | 7, _, _ => exact Ots_7
    | 8, _, _ => exact Ots_8
    | 9, _, _ => exact Ots_9
    | 10, _, _ => exact Ots_10
    | 11, _, _ => exact Ots_11
    | 12, _, _ => exact Ots_12
    | 13, _, _ => exact Ots_13
    | 14, _, _ => exact Ots_14
    | 15, _, _ => exact Ots_15
    | 16, _, _ => exact Ots_16
    | k + 17, _, hb => omega
end Go.Lv
namespace Go.Lv
open Go Go.Proofs
set_option linter.unusedSimpArgs false
set_option maxRecDepth 100000
def ctOts : Nat × (List AV → R) := (188, A1 fun c : BitVec 32 => (True, otsR c))
theorem ctOts_ok {Ct : List (Nat × (List AV → R))} (h : CtOK Tryz.prog Gs Ct) : CtOK Tryz.prog Gs (ctOts :: Ct) := CtOK_cons (Row1 fun k _ => Ots_fun k) h
def otsMay (o : Ots) : Int := if otsT o.code = some o then 0 else 60
theorem may_fun (o : Ots) : Fun Tryz.prog Gs 194 [Enc.enc o] (.i (otsMay o)) := by
  refine Fun_cc [ctOts] mo Tryz.func194 (by decide) cc194 rs194 Tryz.ntmps194 (by simp) ?_
  refine AW_run (ctOts_ok CtOK_nil) 1000 ?_
  cases h : otsT o.code with
  | none =>
    simp (maxSteps := 10000000) (disch := omega) only [go_sem, c194, ctOts, otsR, h, ots0, reduceIte, seval, -BitVec.isValue, -BitVec.reduceOfNat, -List.reduceReplicate]
    simp [otsMay, h]
  | some x =>
    by_cases e : x = o
    · subst e
      simp (maxSteps := 10000000) (disch := omega) only [go_sem, c194, ctOts, otsR, h, eqL, eq1, reduceIte, seval, -BitVec.isValue, -BitVec.reduceOfNat, -List.reduceReplicate]
      simp [otsMay, h]
    · simp (maxSteps := 10000000) (disch := omega) only [go_sem, c194, ctOts, otsR, h, eqL, eq1, reduceIte, seval, -BitVec.isValue, -BitVec.reduceOfNat, -List.reduceReplicate]
      refine run_br (fun hb => ?_) (fun hb => (e (by cases x; cases o; simp at hb; simp [hb])).elim)
      simp (maxSteps := 10000000) (disch := omega) only [go_sem, reduceIte, seval, -BitVec.isValue, -BitVec.reduceOfNat, -List.reduceReplicate]
      simp [otsMay, h, e]
end Go.Lv
namespace Go.Lv
open Go Go.Proofs
set_option linter.unusedSimpArgs false
set_option maxRecDepth 100000
def wOK (w : Int) : Prop := w = 1 ∨ w = 2 ∨ w = 4 ∨ w = 8
def ctTop : Nat × (List AV → R) := (198, A1 fun o : Ots => (0 ≤ o.w ∧ o.w ≤ 61, .i (2 ^ o.w.toNat - 1)))
theorem ctTop_ok {Ct : List (Nat × (List AV → R))} (h : CtOK Tryz.prog Gs Ct) : CtOK Tryz.prog Gs (ctTop :: Ct) := CtOK_cons (Row1 fun o h => top_fun o h.1 h.2) h
end Go.Lv
namespace Go.Lv
open Go Go.Proofs
set_option linter.unusedSimpArgs false
set_option maxRecDepth 100000
structure OtsOK (o : Ots) : Prop where
  w : wOK o.w
  n : o.n = 24 ∨ o.n = 32
  p : 26 ≤ o.p ∧ o.p ≤ 265
  ls : 0 ≤ o.ls ∧ o.ls ≤ 8
  u : 8 * o.n / o.w ≤ o.p
  u2 : o.p ≤ 8 * o.n / o.w + 16 / o.w
theorem otsT_ok {c : BitVec 32} {o : Ots} (h : otsT c = some o) : OtsOK o := by
  unfold otsT at h
  split at h <;> first
    | (cases h; exact ⟨by unfold wOK; decide, by decide, by decide, by decide, by decide, by decide⟩)
    | cases h
def ctU16 : Nat × (List AV → R) := (202, A1 fun n : BitVec 16 => (True, Enc.ret (bigL (n.setWidth 64) 2)))
theorem ctU16_ok {Ct : List (Nat × (List AV → R))} (h : CtOK Tryz.prog Gs Ct) : CtOK Tryz.prog Gs (ctU16 :: Ct) := CtOK_cons (Row1 fun n _ => U16_fun n) h
def ctMay : Nat × (List AV → R) := (194, A1 fun o : Ots => (True, .i (otsMay o)))
theorem ctMay_ok {Ct : List (Nat × (List AV → R))} (h : CtOK Tryz.prog Gs Ct) : CtOK Tryz.prog Gs (ctMay :: Ct) := CtOK_cons (Row1 fun n _ => may_fun n) h
theorem w_pow {w : Int} (h : wOK w) : 0 ≤ (2 : Int) ^ w.toNat - 1 ∧ (2 : Int) ^ w.toNat - 1 ≤ 255 := by
  rcases h with rfl | rfl | rfl | rfl <;> decide
end Go.Lv
namespace Go.Lv
open Go Go.Proofs
set_option linter.unusedSimpArgs false
set_option maxRecDepth 100000
theorem rbytes_fun (k : Int) (h : 0 ≤ k) : Fun Tryz.prog Gs 117 [Enc.enc k] (.i (if k % 2 = 1 then 24 else 32)) := by
  refine Fun_cc [] mo Tryz.func117 (by decide) cc117 rs117 Tryz.ntmps117 (by simp) ?_
  refine AW_run CtOK_nil 1000 ?_
  by_cases h3 : k % 2 = 1
  · simp (maxSteps := 10000000) (disch := omega) only [go_sem, c117, Int.tmod_eq_emod_of_nonneg, reduceIte, seval, -BitVec.isValue, -BitVec.reduceOfNat, -List.reduceReplicate]
  · simp (maxSteps := 10000000) (disch := omega) only [go_sem, c117, Int.tmod_eq_emod_of_nonneg, reduceIte, seval, -BitVec.isValue, -BitVec.reduceOfNat, -List.reduceReplicate]; simp [h3]
def σpow (n : Int) (k : Nat) : St := ⟨[(3, .i (2 ^ k)), (4, .i n), (5, .i k)], [], 0⟩
theorem rpower_fun (n : Int) (h : 0 ≤ n ∧ n ≤ 61) : Fun Tryz.prog Gs 177 [Enc.enc n] (.i (2 ^ n.toNat)) := by
  refine Fun_cc [] mo Tryz.func177 (by decide) cc177 rs177 Tryz.ntmps177 (by simp) ?_
  refine AW_run CtOK_nil 1000 ?_
  simp (maxSteps := 10000000) (disch := omega) only [go_sem, c177, reduceIte, seval, -BitVec.isValue, -BitVec.reduceOfNat, -List.reduceReplicate]
  refine AW_loop (σpow n) (fun k => k ≤ n) (fun k => n.toNat - k) 0 (by omega) (Wk_p [] ?_) fun k hk => ?_
  · simp only [go_sem, σpow, reduceIte, seval, -BitVec.isValue, -BitVec.reduceOfNat, -List.reduceReplicate]
    try simp
  · refine AW_run CtOK_nil 1000 ?_
    have hp := pow_le61 (w := (k : Int)) (by omega)
    simp only [Int.toNat_natCast] at hp
    simp (maxSteps := 10000000) (disch := omega) only [go_sem, σpow, reduceIte, seval, -BitVec.isValue, -BitVec.reduceOfNat, -List.reduceReplicate]
    refine run_br (fun hb => ?_) (fun hb => ?_)
    · have hlt : (k : Int) < n := by simpa using hb
      simp (maxSteps := 10000000) (disch := omega) only [go_sem, reduceIte, seval, -BitVec.isValue, -BitVec.reduceOfNat, -List.reduceReplicate]
      refine ⟨k + 1, by omega, Wk_p [] ?_, by omega⟩
      simp only [go_sem, reduceIte, seval, -BitVec.isValue, -BitVec.reduceOfNat, -List.reduceReplicate]
      simp [Int.pow_succ]
    · have hge : n = k := by have : ¬ (k : Int) < n := by simpa using hb
                             omega
      subst hge
      simp (maxSteps := 10000000) (disch := omega) only [go_sem, reduceIte, seval, -BitVec.isValue, -BitVec.reduceOfNat, -List.reduceReplicate]
def ctRpow : Nat × (List AV → R) := (177, A1 fun n : Int => (0 ≤ n ∧ n ≤ 61, .i (2 ^ n.toNat)))
theorem ctRpow_ok {Ct : List (Nat × (List AV → R))} (h : CtOK Tryz.prog Gs Ct) : CtOK Tryz.prog Gs (ctRpow :: Ct) := CtOK_cons (Row1 fun o h => rpower_fun o h) h
def ctRbytes : Nat × (List AV → R) := (117, A1 fun n : Int => (0 ≤ n, .i (if n % 2 = 1 then 24 else 32)))
theorem ctRbytes_ok {Ct : List (Nat × (List AV → R))} (h : CtOK Tryz.prog Gs Ct) : CtOK Tryz.prog Gs (ctRbytes :: Ct) := CtOK_cons (Row1 fun o h => rbytes_fun o h) h
theorem rup_fun (a b : Int) (h : 0 ≤ a ∧ a ≤ 1000000000 ∧ 0 < b ∧ b ≤ 1000000000) : Fun Tryz.prog Gs 178 [Enc.enc a, Enc.enc b] (.i ((a + b - 1) / b)) := by
  refine Fun_cc [] mo Tryz.func178 (by decide) cc178 rs178 Tryz.ntmps178 (by simp) ?_
  refine AW_run CtOK_nil 1000 ?_
  simp (maxSteps := 10000000) (disch := omega) only [go_sem, c178, Int.tdiv_eq_ediv_of_nonneg, reduceIte, seval, -BitVec.isValue, -BitVec.reduceOfNat, -List.reduceReplicate]
def bitsS (n : Nat) : Nat := if n = 0 then 0 else n.log2 + 1
theorem bitsS_eq {n b : Nat} (h1 : ∀ j < b, 2 ^ j ≤ n) (h2 : n < 2 ^ b) : b = bitsS n := by
  unfold bitsS
  split
  · rename_i h; subst h
    rcases Nat.eq_zero_or_pos b with h | h
    · exact h
    · have := h1 0 h; simp at this
  · rename_i h
    rcases Nat.eq_zero_or_pos b with h0 | h0
    · subst h0; simp at h2; omega
    · have h3 := h1 (b - 1) (by omega)
      rw [← Nat.le_log2 h] at h3
      rw [← Nat.log2_lt h] at h2
      omega
def σbits (n : Int) (k : Nat) : St := ⟨[(0, .i n), (3, .i k)], [], 0⟩
theorem rbits_fun (n : Int) (h : 0 ≤ n ∧ n < 2 ^ 40) : Fun Tryz.prog Gs 179 [Enc.enc n] (.i (bitsS n.toNat)) := by
  obtain ⟨n, rfl⟩ := Int.eq_ofNat_of_zero_le h.1
  have h4 : n < 2 ^ 40 := by omega
  refine Fun_cc [ctRpow] mo Tryz.func179 (by decide) cc179 rs179 Tryz.ntmps179 (by simp) ?_
  refine AW_run (ctRpow_ok CtOK_nil) 1000 ?_
  simp (maxSteps := 10000000) (disch := omega) only [go_sem, c179, reduceIte, seval, -BitVec.isValue, -BitVec.reduceOfNat, -List.reduceReplicate]
  refine AW_loop (σbits n) (fun k => k ≤ 40 ∧ ∀ j < k, 2 ^ j ≤ n) (fun k => 40 - k) 0 ⟨by omega, by intro j hj; omega⟩ (Wk_p [] ?_) fun k hk => ?_
  · simp only [go_sem, σbits, reduceIte, seval, -BitVec.isValue, -BitVec.reduceOfNat, -List.reduceReplicate]
    try simp
  · refine AW_run (ctRpow_ok CtOK_nil) 1000 ?_
    obtain ⟨hk, hj⟩ := hk
    simp (maxSteps := 10000000) (disch := omega) only [go_sem, σbits, ctRpow, reduceIte, seval, -BitVec.isValue, -BitVec.reduceOfNat, -List.reduceReplicate]
    have e : (2 : Int) ^ k = ((2 ^ k : Nat) : Int) := by simp
    refine run_br (fun hb => ?_) (fun hb => ?_)
    · have hb1 := of_decide_eq_true hb
      have hlt : 2 ^ k ≤ n := by omega
      have hk4 : k < 40 := by
        rcases Nat.lt_or_ge k 40 with h | h
        · exact h
        · have := Nat.pow_le_pow_right (show 0 < 2 by omega) h; omega
      simp (maxSteps := 10000000) (disch := omega) only [go_sem, reduceIte, seval, -BitVec.isValue, -BitVec.reduceOfNat, -List.reduceReplicate]
      refine ⟨k + 1, ⟨by omega, fun j h => ?_⟩, Wk_p [] ?_, by omega⟩
      · rcases Nat.lt_or_ge j k with h5 | h5
        · exact hj j h5
        · have : j = k := by omega
          subst this; exact hlt
      · simp only [go_sem, reduceIte, seval, -BitVec.isValue, -BitVec.reduceOfNat, -List.reduceReplicate]
        simp
    · have hb1 := of_decide_eq_false hb
      have hge : n < 2 ^ k := by omega
      have := bitsS_eq hj hge
      simp (maxSteps := 10000000) (disch := omega) only [go_sem, reduceIte, seval, -BitVec.isValue, -BitVec.reduceOfNat, -List.reduceReplicate]
      simp [← this]
def ctRbits : Nat × (List AV → R) := (179, A1 fun n : Int => (0 ≤ n ∧ n < 1099511627776, .i (bitsS n.toNat)))
theorem ctRbits_ok {Ct : List (Nat × (List AV → R))} (h : CtOK Tryz.prog Gs Ct) : CtOK Tryz.prog Gs (ctRbits :: Ct) := CtOK_cons (Row1 fun o h => rbits_fun o h) h
def ctRup : Nat × (List AV → R) := (178, A2 fun a b : Int => (0 ≤ a ∧ a ≤ 1000000000 ∧ 0 < b ∧ b ≤ 1000000000, .i ((a + b - 1) / b)))
theorem ctRup_ok {Ct : List (Nat × (List AV → R))} (h : CtOK Tryz.prog Gs Ct) : CtOK Tryz.prog Gs (ctRup :: Ct) := CtOK_cons (Row2 fun a b h => rup_fun a b h) h
theorem rOts_err (c : BitVec 32) (h : c = 0 ∨ 16 < c.toNat) : Fun Tryz.prog Gs 115 [Enc.enc c] (.tup [Enc.enc ots0, .i 60]) := by
  refine Fun_cc [] mo Tryz.func115 (by decide) cc115 rs115 Tryz.ntmps115 (by simp) ?_
  refine AW_run CtOK_nil 1000 ?_
  rcases h with rfl | h
  · simp (maxSteps := 10000000) (disch := omega) only [go_sem, c115, ots0, reduceIte, seval, -BitVec.isValue, -BitVec.reduceOfNat, -List.reduceReplicate]
  · have h1 : ¬ (c < 1#32) := by rw [BitVec.lt_def]; simp; omega
    have h2 : (16#32 < c) := by rw [BitVec.lt_def]; simpa using h
    simp (maxSteps := 10000000) (disch := omega) only [go_sem, c115, ots0, h1, h2, reduceIte, seval, -BitVec.isValue, -BitVec.reduceOfNat, -List.reduceReplicate]
theorem rOts_1 : Fun Tryz.prog Gs 115 [Enc.enc (1 : BitVec 32)] (.tup [Enc.enc (⟨1, false, 32, 1, 265, 7⟩ : Ots), .i 0]) := by
  refine Fun_cc [ctRbytes, ctRpow, ctRbits, ctRup] mo Tryz.func115 (by decide) cc115 rs115 Tryz.ntmps115 (by simp) ?_
  refine AW_run (ctRbytes_ok (ctRpow_ok (ctRbits_ok (ctRup_ok CtOK_nil)))) 1000 ?_
  have : bitsS 256 = 9 := by decide +kernel
  simp (maxSteps := 10000000) (disch := omega) only [go_sem, c115, ctRbytes, ctRpow, ctRbits, ctRup, Int.cast_ofNat_Int, this, reduceIte, seval, -BitVec.isValue, -BitVec.reduceOfNat, -List.reduceReplicate]
theorem rOts_2 : Fun Tryz.prog Gs 115 [Enc.enc (2 : BitVec 32)] (.tup [Enc.enc (⟨2, false, 32, 2, 133, 6⟩ : Ots), .i 0]) := by
  refine Fun_cc [ctRbytes, ctRpow, ctRbits, ctRup] mo Tryz.func115 (by decide) cc115 rs115 Tryz.ntmps115 (by simp) ?_
  refine AW_run (ctRbytes_ok (ctRpow_ok (ctRbits_ok (ctRup_ok CtOK_nil)))) 1000 ?_
  have : bitsS 384 = 9 := by decide +kernel
  simp (maxSteps := 10000000) (disch := omega) only [go_sem, c115, ctRbytes, ctRpow, ctRbits, ctRup, Int.cast_ofNat_Int, this, reduceIte, seval, -BitVec.isValue, -BitVec.reduceOfNat, -List.reduceReplicate]
theorem rOts_3 : Fun Tryz.prog Gs 115 [Enc.enc (3 : BitVec 32)] (.tup [Enc.enc (⟨3, false, 32, 4, 67, 4⟩ : Ots), .i 0]) := by
  refine Fun_cc [ctRbytes, ctRpow, ctRbits, ctRup] mo Tryz.func115 (by decide) cc115 rs115 Tryz.ntmps115 (by simp) ?_
  refine AW_run (ctRbytes_ok (ctRpow_ok (ctRbits_ok (ctRup_ok CtOK_nil)))) 1000 ?_
  have : bitsS 960 = 10 := by decide +kernel
  simp (maxSteps := 10000000) (disch := omega) only [go_sem, c115, ctRbytes, ctRpow, ctRbits, ctRup, Int.cast_ofNat_Int, this, reduceIte, seval, -BitVec.isValue, -BitVec.reduceOfNat, -List.reduceReplicate]
theorem rOts_4 : Fun Tryz.prog Gs 115 [Enc.enc (4 : BitVec 32)] (.tup [Enc.enc (⟨4, false, 32, 8, 34, 0⟩ : Ots), .i 0]) := by
  refine Fun_cc [ctRbytes, ctRpow, ctRbits, ctRup] mo Tryz.func115 (by decide) cc115 rs115 Tryz.ntmps115 (by simp) ?_
  refine AW_run (ctRbytes_ok (ctRpow_ok (ctRbits_ok (ctRup_ok CtOK_nil)))) 1000 ?_
  have : bitsS 8160 = 13 := by decide +kernel
  simp (maxSteps := 10000000) (disch := omega) only [go_sem, c115, ctRbytes, ctRpow, ctRbits, ctRup, Int.cast_ofNat_Int, this, reduceIte, seval, -BitVec.isValue, -BitVec.reduceOfNat, -List.reduceReplicate]
theorem rOts_5 : Fun Tryz.prog Gs 115 [Enc.enc (5 : BitVec 32)] (.tup [Enc.enc (⟨5, false, 24, 1, 200, 8⟩ : Ots), .i 0]) := by
  refine Fun_cc [ctRbytes, ctRpow, ctRbits, ctRup] mo Tryz.func115 (by decide) cc115 rs115 Tryz.ntmps115 (by simp) ?_
  refine AW_run (ctRbytes_ok (ctRpow_ok (ctRbits_ok (ctRup_ok CtOK_nil)))) 1000 ?_
  have : bitsS 192 = 8 := by decide +kernel
  simp (maxSteps := 10000000) (disch := omega) only [go_sem, c115, ctRbytes, ctRpow, ctRbits, ctRup, Int.cast_ofNat_Int, this, reduceIte, seval, -BitVec.isValue, -BitVec.reduceOfNat, -List.reduceReplicate]
theorem rOts_6 : Fun Tryz.prog Gs 115 [Enc.enc (6 : BitVec 32)] (.tup [Enc.enc (⟨6, false, 24, 2, 101, 6⟩ : Ots), .i 0]) := by
  refine Fun_cc [ctRbytes, ctRpow, ctRbits, ctRup] mo Tryz.func115 (by decide) cc115 rs115 Tryz.ntmps115 (by simp) ?_
  refine AW_run (ctRbytes_ok (ctRpow_ok (ctRbits_ok (ctRup_ok CtOK_nil)))) 1000 ?_
  have : bitsS 288 = 9 := by decide +kernel
  simp (maxSteps := 10000000) (disch := omega) only [go_sem, c115, ctRbytes, ctRpow, ctRbits, ctRup, Int.cast_ofNat_Int, this, reduceIte, seval, -BitVec.isValue, -BitVec.reduceOfNat, -List.reduceReplicate]
theorem rOts_7 : Fun Tryz.prog Gs 115 [Enc.enc (7 : BitVec 32)] (.tup [Enc.enc (⟨7, false, 24, 4, 51, 4⟩ : Ots), .i 0]) := by
  refine Fun_cc [ctRbytes, ctRpow, ctRbits, ctRup] mo Tryz.func115 (by decide) cc115 rs115 Tryz.ntmps115 (by simp) ?_
  refine AW_run (ctRbytes_ok (ctRpow_ok (ctRbits_ok (ctRup_ok CtOK_nil)))) 1000 ?_
  have : bitsS 720 = 10 := by decide +kernel
  simp (maxSteps := 10000000) (disch := omega) only [go_sem, c115, ctRbytes, ctRpow, ctRbits, ctRup, Int.cast_ofNat_Int, this, reduceIte, seval, -BitVec.isValue, -BitVec.reduceOfNat, -List.reduceReplicate]
theorem rOts_8 : Fun Tryz.prog Gs 115 [Enc.enc (8 : BitVec 32)] (.tup [Enc.enc (⟨8, false, 24, 8, 26, 0⟩ : Ots), .i 0]) := by
  refine Fun_cc [ctRbytes, ctRpow, ctRbits, ctRup] mo Tryz.func115 (by decide) cc115 rs115 Tryz.ntmps115 (by simp) ?_
  refine AW_run (ctRbytes_ok (ctRpow_ok (ctRbits_ok (ctRup_ok CtOK_nil)))) 1000 ?_
  have : bitsS 6120 = 13 := by decide +kernel
  simp (maxSteps := 10000000) (disch := omega) only [go_sem, c115, ctRbytes, ctRpow, ctRbits, ctRup, Int.cast_ofNat_Int, this, reduceIte, seval, -BitVec.isValue, -BitVec.reduceOfNat, -List.reduceReplicate]
theorem rOts_9 : Fun Tryz.prog Gs 115 [Enc.enc (9 : BitVec 32)] (.tup [Enc.enc (⟨9, true, 32, 1, 265, 7⟩ : Ots), .i 0]) := by
  refine Fun_cc [ctRbytes, ctRpow, ctRbits, ctRup] mo Tryz.func115 (by decide) cc115 rs115 Tryz.ntmps115 (by simp) ?_
  refine AW_run (ctRbytes_ok (ctRpow_ok (ctRbits_ok (ctRup_ok CtOK_nil)))) 1000 ?_
  have : bitsS 256 = 9 := by decide +kernel
  simp (maxSteps := 10000000) (disch := omega) only [go_sem, c115, ctRbytes, ctRpow, ctRbits, ctRup, Int.cast_ofNat_Int, this, reduceIte, seval, -BitVec.isValue, -BitVec.reduceOfNat, -List.reduceReplicate]
theorem rOts_10 : Fun Tryz.prog Gs 115 [Enc.enc (10 : BitVec 32)] (.tup [Enc.enc (⟨10, true, 32, 2, 133, 6⟩ : Ots), .i 0]) := by
  refine Fun_cc [ctRbytes, ctRpow, ctRbits, ctRup] mo Tryz.func115 (by decide) cc115 rs115 Tryz.ntmps115 (by simp) ?_
  refine AW_run (ctRbytes_ok (ctRpow_ok (ctRbits_ok (ctRup_ok CtOK_nil)))) 1000 ?_
  have : bitsS 384 = 9 := by decide +kernel
  simp (maxSteps := 10000000) (disch := omega) only [go_sem, c115, ctRbytes, ctRpow, ctRbits, ctRup, Int.cast_ofNat_Int, this, reduceIte, seval, -BitVec.isValue, -BitVec.reduceOfNat, -List.reduceReplicate]
theorem rOts_11 : Fun Tryz.prog Gs 115 [Enc.enc (11 : BitVec 32)] (.tup [Enc.enc (⟨11, true, 32, 4, 67, 4⟩ : Ots), .i 0]) := by
  refine Fun_cc [ctRbytes, ctRpow, ctRbits, ctRup] mo Tryz.func115 (by decide) cc115 rs115 Tryz.ntmps115 (by simp) ?_
  refine AW_run (ctRbytes_ok (ctRpow_ok (ctRbits_ok (ctRup_ok CtOK_nil)))) 1000 ?_
  have : bitsS 960 = 10 := by decide +kernel
  simp (maxSteps := 10000000) (disch := omega) only [go_sem, c115, ctRbytes, ctRpow, ctRbits, ctRup, Int.cast_ofNat_Int, this, reduceIte, seval, -BitVec.isValue, -BitVec.reduceOfNat, -List.reduceReplicate]
theorem rOts_12 : Fun Tryz.prog Gs 115 [Enc.enc (12 : BitVec 32)] (.tup [Enc.enc (⟨12, true, 32, 8, 34, 0⟩ : Ots), .i 0]) := by
  refine Fun_cc [ctRbytes, ctRpow, ctRbits, ctRup] mo Tryz.func115 (by decide) cc115 rs115 Tryz.ntmps115 (by simp) ?_
  refine AW_run (ctRbytes_ok (ctRpow_ok (ctRbits_ok (ctRup_ok CtOK_nil)))) 1000 ?_
  have : bitsS 8160 = 13 := by decide +kernel
  simp (maxSteps := 10000000) (disch := omega) only [go_sem, c115, ctRbytes, ctRpow, ctRbits, ctRup, Int.cast_ofNat_Int, this, reduceIte, seval, -BitVec.isValue, -BitVec.reduceOfNat, -List.reduceReplicate]
theorem rOts_13 : Fun Tryz.prog Gs 115 [Enc.enc (13 : BitVec 32)] (.tup [Enc.enc (⟨13, true, 24, 1, 200, 8⟩ : Ots), .i 0]) := by
  refine Fun_cc [ctRbytes, ctRpow, ctRbits, ctRup] mo Tryz.func115 (by decide) cc115 rs115 Tryz.ntmps115 (by simp) ?_
  refine AW_run (ctRbytes_ok (ctRpow_ok (ctRbits_ok (ctRup_ok CtOK_nil)))) 1000 ?_
  have : bitsS 192 = 8 := by decide +kernel
  simp (maxSteps := 10000000) (disch := omega) only [go_sem, c115, ctRbytes, ctRpow, ctRbits, ctRup, Int.cast_ofNat_Int, this, reduceIte, seval, -BitVec.isValue, -BitVec.reduceOfNat, -List.reduceReplicate]
theorem rOts_14 : Fun Tryz.prog Gs 115 [Enc.enc (14 : BitVec 32)] (.tup [Enc.enc (⟨14, true, 24, 2, 101, 6⟩ : Ots), .i 0]) := by
  refine Fun_cc [ctRbytes, ctRpow, ctRbits, ctRup] mo Tryz.func115 (by decide) cc115 rs115 Tryz.ntmps115 (by simp) ?_
  refine AW_run (ctRbytes_ok (ctRpow_ok (ctRbits_ok (ctRup_ok CtOK_nil)))) 1000 ?_
  have : bitsS 288 = 9 := by decide +kernel
  simp (maxSteps := 10000000) (disch := omega) only [go_sem, c115, ctRbytes, ctRpow, ctRbits, ctRup, Int.cast_ofNat_Int, this, reduceIte, seval, -BitVec.isValue, -BitVec.reduceOfNat, -List.reduceReplicate]
theorem rOts_15 : Fun Tryz.prog Gs 115 [Enc.enc (15 : BitVec 32)] (.tup [Enc.enc (⟨15, true, 24, 4, 51, 4⟩ : Ots), .i 0]) := by
  refine Fun_cc [ctRbytes, ctRpow, ctRbits, ctRup] mo Tryz.func115 (by decide) cc115 rs115 Tryz.ntmps115 (by simp) ?_
  refine AW_run (ctRbytes_ok (ctRpow_ok (ctRbits_ok (ctRup_ok CtOK_nil)))) 1000 ?_
  have : bitsS 720 = 10 := by decide +kernel
  simp (maxSteps := 10000000) (disch := omega) only [go_sem, c115, ctRbytes, ctRpow, ctRbits, ctRup, Int.cast_ofNat_Int, this, reduceIte, seval, -BitVec.isValue, -BitVec.reduceOfNat, -List.reduceReplicate]
theorem rOts_16 : Fun Tryz.prog Gs 115 [Enc.enc (16 : BitVec 32)] (.tup [Enc.enc (⟨16, true, 24, 8, 26, 0⟩ : Ots), .i 0]) := by
  refine Fun_cc [ctRbytes, ctRpow, ctRbits, ctRup] mo Tryz.func115 (by decide) cc115 rs115 Tryz.ntmps115 (by simp) ?_
  refine AW_run (ctRbytes_ok (ctRpow_ok (ctRbits_ok (ctRup_ok CtOK_nil)))) 1000 ?_
  have : bitsS 6120 = 13 := by decide +kernel
  simp (maxSteps := 10000000) (disch := omega) only [go_sem, c115, ctRbytes, ctRpow, ctRbits, ctRup, Int.cast_ofNat_Int, this, reduceIte, seval, -BitVec.isValue, -BitVec.reduceOfNat, -List.reduceReplicate]
theorem rOts_fun (c : BitVec 32) : Fun Tryz.prog Gs 115 [Enc.enc c] (otsR c) := by
  by_cases h : c = 0 ∨ 16 < c.toNat
  · have : otsT c = none := by
      unfold otsT
      rcases h with rfl | h
      · rfl
      · split <;> first | rfl | omega
    rw [otsR, this]; exact rOts_err c h
  · have h0 : c.toNat ≠ 0 := fun e => h (.inl (BitVec.eq_of_toNat_eq (by simpa using e)))
    have hc : c = BitVec.ofNat 32 c.toNat := by simp
    generalize c.toNat = k at *
    subst hc
    have hk : 1 ≤ k ∧ k ≤ 16 := by omega
    clear h h0
    obtain ⟨a, b⟩ := hk
    match k, a, b with
    | 1, _, _ => exact rOts_1
    | 2, _, _ => exact rOts_2
    | 3, _, _ => exact rOts_3
    | 4, _, _ => exact rOts_4
    | 5, _, _ => exact rOts_5
    | 6, _, _ => exact rOts_6
    | 7, _, _ => exact rOts_7
    | 8, _, _ => exact rOts_8
    | 9, _, _ => exact rOts_9
    | 10, _, _ => exact rOts_10
    | 11, _, _ => exact rOts_11
    | 12, _, _ => exact rOts_12
    | 13, _, _ => exact rOts_13
    | 14, _, _ => exact rOts_14
    | 15, _, _ => exact rOts_15
    | 16, _, _ => exact rOts_16
    | k + 17, _, hb => omega
def ctROts : Nat × (List AV → R) := (115, A1 fun c : BitVec 32 => (True, otsR c))
theorem ctROts_ok {Ct : List (Nat × (List AV → R))} (h : CtOK Tryz.prog Gs Ct) : CtOK Tryz.prog Gs (ctROts :: Ct) := CtOK_cons (Row1 fun k _ => rOts_fun k) h
theorem rMayOts_fun (o : Ots) : Fun Tryz.prog Gs 203 [Enc.enc o] (.b (decide (otsT o.code = some o))) := by
  refine Fun_cc [ctROts] mo Tryz.func203 (by decide) cc203 rs203 Tryz.ntmps203 (by simp) ?_
  refine AW_run (ctROts_ok CtOK_nil) 1000 ?_
  cases h : otsT o.code with
  | none =>
    simp (maxSteps := 10000000) (disch := omega) only [go_sem, c203, ctROts, otsR, h, ots0, reduceIte, seval, -BitVec.isValue, -BitVec.reduceOfNat, -List.reduceReplicate]
    try simp
  | some x =>
    by_cases e : x = o
    · subst e
      simp (maxSteps := 10000000) (disch := omega) only [go_sem, c203, ctROts, otsR, h, eqL, eq1, reduceIte, seval, -BitVec.isValue, -BitVec.reduceOfNat, -List.reduceReplicate]
      try simp
    · have e2 : (x.code = o.code ∧ x.shake = o.shake ∧ x.n = o.n ∧ x.w = o.w ∧ x.p = o.p ∧ x.ls = o.ls) = False := eq_false fun ⟨a, b, c, d, f, g⟩ => e (by cases x; cases o; simp_all)
      simp (maxSteps := 10000000) (disch := omega) only [go_sem, c203, ctROts, otsR, h, eqL, eq1, reduceIte, seval, -BitVec.isValue, -BitVec.reduceOfNat, -List.reduceReplicate]
      · have : (decide (x.code = o.code) && (decide (x.shake = o.shake) && (decide (x.n = o.n) && (decide (x.w = o.w) && (decide (x.p = o.p) && decide (x.ls = o.ls)))))) = false := by
          have := e2
          simp only [← Bool.decide_and]; exact decide_eq_false (of_eq_false e2)
        rw [this]; simp [e]
def ctRMayOts : Nat × (List AV → R) := (203, A1 fun o : Ots => (True, .b (decide (otsT o.code = some o))))
theorem ctRMayOts_ok {Ct : List (Nat × (List AV → R))} (h : CtOK Tryz.prog Gs Ct) : CtOK Tryz.prog Gs (ctRMayOts :: Ct) := CtOK_cons (Row1 fun k _ => rMayOts_fun k) h
def rMay (o : Ots) (b : List (BitVec 8)) : Int := if otsT o.code = some o then if (b.length : Int) = o.n then 0 else 1 else 60
end Go.Lv
namespace Go.Lv
open Go Go.Proofs
set_option linter.unusedSimpArgs false
set_option maxRecDepth 100000
def σmost (n : Int) (k : Nat) : St := ⟨[(3, .i (2 ^ k)), (5, .i n), (6, .i k)], [], 1⟩
theorem most_fun (o : Ots) (h : 0 ≤ o.w ∧ o.w ≤ 61) : Fun Tryz.prog Gs 206 [Enc.enc o] (.i (2 ^ o.w.toNat - 1)) := by
  refine Fun_cc [] mo Tryz.func206 (by decide) cc206 rs206 Tryz.ntmps206 (by simp) ?_
  refine AW_run CtOK_nil 1000 ?_
  simp (maxSteps := 10000000) (disch := omega) only [go_sem, c206, reduceIte, seval, -BitVec.isValue, -BitVec.reduceOfNat, -List.reduceReplicate]
  refine AW_loop (σmost o.w) (fun k => k ≤ o.w) (fun k => o.w.toNat - k) 0 (by omega) (Wk_p [] ?_) fun k hk => ?_
  · simp only [go_sem, σmost, reduceIte, seval, -BitVec.isValue, -BitVec.reduceOfNat, -List.reduceReplicate]
    try simp
  · refine AW_run CtOK_nil 1000 ?_
    have hp := pow_le61 (w := (k : Int)) (by omega)
    simp only [Int.toNat_natCast] at hp
    simp (maxSteps := 10000000) (disch := omega) only [go_sem, σmost, reduceIte, seval, -BitVec.isValue, -BitVec.reduceOfNat, -List.reduceReplicate]
    refine run_br (fun hb => ?_) (fun hb => ?_)
    · have hlt : (k : Int) < o.w := by simpa using hb
      simp (maxSteps := 10000000) (disch := omega) only [go_sem, reduceIte, seval, -BitVec.isValue, -BitVec.reduceOfNat, -List.reduceReplicate]
      refine ⟨k + 1, by omega, Wk_p [] ?_, by omega⟩
      simp only [go_sem, reduceIte, seval, -BitVec.isValue, -BitVec.reduceOfNat, -List.reduceReplicate]
      simp [Int.pow_succ]
    · have hge : o.w = k := by have : ¬ (k : Int) < o.w := by simpa using hb
                               omega
      simp (maxSteps := 10000000) (disch := omega) only [go_sem, hge, reduceIte, seval, -BitVec.isValue, -BitVec.reduceOfNat, -List.reduceReplicate]
theorem bg1 (n : BitVec 64) (j : Nat) : ((n >>> (8 * j)) % 256#64).setWidth 8 = byteAt n j := by
  apply BitVec.eq_of_toNat_eq
  simp [byteAt, BitVec.toNat_umod, BitVec.toNat_ushiftRight]
theorem bg2 (n : BitVec 64) (j : Nat) : (n >>> (8 * j)) / 256#64 = n >>> (8 * (j + 1)) := by
  apply BitVec.eq_of_toNat_eq
  simp only [BitVec.toNat_udiv, BitVec.toNat_ushiftRight, Nat.shiftRight_eq_div_pow, Nat.mul_add, Nat.pow_add, Nat.div_div_eq_div_mul]
  rfl
def σrbig (n : BitVec 64) (k j : Nat) : St := ⟨[(0, .u64 (n >>> (8 * j))), (5, .sl 0 0 k 1), (6, .i ((k : Int) - 1 - j))], [(0, ⟨(bigC n k j).map .u8, true⟩)], 1⟩
theorem rBig_fun (n : BitVec 64) (k : Nat) (hk : k ≤ 1000000) : Fun Tryz.prog Gs 70 [Enc.enc n, Enc.enc (k : Int)] (Enc.ret (bigL n k)) := by
  refine Fun_cc [] mo Tryz.func70 (by decide) cc70 rs70 Tryz.ntmps70 (by simp) ?_
  refine AW_run CtOK_nil 1000 ?_
  simp (maxSteps := 10000000) (disch := omega) only [go_sem, c70, reduceIte, seval, -BitVec.isValue, -BitVec.reduceOfNat, -List.reduceReplicate]
  refine AW_loop (σrbig n k) (fun j => j ≤ k) (fun j => k - j) 0 (Nat.zero_le _) (Wk_p [] ?_) fun j hj => ?_
  · simp only [go_sem, σrbig, bigC_zero, reduceIte, seval, -BitVec.isValue, -BitVec.reduceOfNat, -List.reduceReplicate]
    try simp
  · refine AW_run CtOK_nil 1000 ?_
    simp (maxSteps := 10000000) (disch := omega) only [go_sem, σrbig, reduceIte, seval, -BitVec.isValue, -BitVec.reduceOfNat, -List.reduceReplicate]
    refine run_br (fun hb => ?_) (fun hb => ?_)
    · have hlt : j < k := by have := of_decide_eq_true hb; omega
      have hl := bigC_len n k j
      simp (maxSteps := 10000000) (disch := omega) only [go_sem, reduceIte, seval, -BitVec.isValue, -BitVec.reduceOfNat, -List.reduceReplicate]
      have e1 : ((k : Int) - 1 - j).toNat = k - 1 - j := by omega
      refine ⟨j + 1, by omega, Wk_p [] ?_, by omega⟩
      simp only [go_sem, reduceIte, seval, -BitVec.isValue, -BitVec.reduceOfNat, -List.reduceReplicate]
      simp [e1, ← bigC_set n k j hlt, ← bg1, ← bg2]
      try omega
    · have hge : j = k := by have := of_decide_eq_false hb; omega
      subst hge
      have hl := bigL_len n j
      simp (maxSteps := 10000000) (disch := omega) only [go_sem, bigC_all, reduceIte, seval, -BitVec.isValue, -BitVec.reduceOfNat, -List.reduceReplicate]
      simp [← List.map_take, List.take_of_length_le, hl]
def ctRBig : Nat × (List AV → R) := (70, A2 fun (n : BitVec 64) (k : Int) => (0 ≤ k ∧ k ≤ 1000000, Enc.ret (bigL n k.toNat)))
theorem ctRBig_ok {Ct : List (Nat × (List AV → R))} (h : CtOK Tryz.prog Gs Ct) : CtOK Tryz.prog Gs (ctRBig :: Ct) := CtOK_cons (Row2 fun n k h => by
  obtain ⟨k, rfl⟩ := Int.eq_ofNat_of_zero_le h.1
  exact rBig_fun n k (by have := h.2; omega)) h
def ctMost : Nat × (List AV → R) := (206, A1 fun o : Ots => (0 ≤ o.w ∧ o.w ≤ 61, .i (2 ^ o.w.toNat - 1)))
theorem ctMost_ok {Ct : List (Nat × (List AV → R))} (h : CtOK Tryz.prog Gs Ct) : CtOK Tryz.prog Gs (ctMost :: Ct) := CtOK_cons (Row1 fun o h => most_fun o h) h
end Go.Lv
namespace Go.Lv
open Go Go.Proofs
set_option linter.unusedSimpArgs false
set_option maxRecDepth 100000
end Go.Lv
