/- A part of the proof. -/
import Derived.Test.YtlieeeembbjenaaUc
set_option linter.all false
namespace Go.Lv
open Go Go.Proofs
set_option linter.unusedSimpArgs false
set_option maxRecDepth 100000

def prep (r : Nat) (st : La × Nat) : La × Nat := if st.2 = r then (perm st.1, 0) else st
def byteG (st : La × Nat) : BitVec 8 := (st.1.getD (st.2 / 8) 0 >>> (8 * (st.2 % 8))).setWidth 8
def gS (r : Nat) (st : La × Nat) : Nat → La × Nat
  | 0 => st
  | i + 1 => ((prep r (gS r st i)).1, (prep r (gS r st i)).2 + 1)
def gBy (r : Nat) (st : La × Nat) (i : Nat) : BitVec 8 := byteG (prep r (gS r st i))
def gO (r : Nat) (st : La × Nat) (n : Nat) : List (BitVec 8) := (List.range n).map (gBy r st)
theorem prep_ok {r : Nat} {st : La × Nat} (h : st.1.length = 25 ∧ st.2 ≤ r) (hr : 0 < r) : (prep r st).1.length = 25 ∧ (prep r st).2 < r := by
  unfold prep
  split
  · exact ⟨perm_len h.1, hr⟩
  · exact ⟨h.1, by omega⟩
theorem gS_ok {r : Nat} (hr : 0 < r) {st : La × Nat} (h : st.1.length = 25 ∧ st.2 ≤ r) : ∀ i, (gS r st i).1.length = 25 ∧ (gS r st i).2 ≤ r
  | 0 => h
  | i + 1 => by
    have := prep_ok (gS_ok hr h i) hr
    exact ⟨this.1, by simp only [gS]; omega⟩
theorem map8_id {A : List (BitVec 8)} {n : Nat} (h : A.length = n) : (List.range n).map (fun k => A.getD k 0) = A := by
  apply List.ext_getElem
  · simp [h]
  · intro i h1 h2; simp [List.getD_eq_getElem?_getD, h2]
theorem fill80 (f : Nat → BitVec 8) {A : List (BitVec 8)} {n : Nat} (h : A.length = n) : fillL n f (fun k => A.getD k 0) 0 = A := by rw [fillL_zero, map8_id h]
theorem dom01 {nx : Nat} (h : Nat.blt 1 nx = true) : ∀ i ∈ [0, 1], i < nx ∧ lkd i [] i = i := by
  intro i hi
  have : 1 < nx := by simpa using h
  rcases List.mem_cons.1 hi with rfl | hi
  · exact ⟨by omega, rfl⟩
  · simp only [List.mem_singleton] at hi
    subst hi
    exact ⟨this, rfl⟩

def σg (k : Option (Bool × Int)) (r : Nat) (st : La × Nat) (o : List (BitVec 8)) (i : Nat) : St :=
  ⟨[(0, .ptr 0 (spO k)), (1, .sl 1 0 o.length 1), (5, .sl 1 0 o.length 1), (6, .i o.length), (7, .i i)],
   [(0, ⟨spC k (gS r st i).1 r (gS r st i).2, false⟩), (1, ⟨(fillL o.length (gBy r st) (fun k => o.getD k 0) i).map .u8, false⟩)], 2⟩

set_option maxHeartbeats 4000000 in
theorem gives_n (r : Nat) (st : La × Nat) (o : List (BitVec 8)) (hs : st.1.length = 25 ∧ st.2 ≤ r) (hr0 : 0 < r) (hr : r ≤ 200) (ho : o.length ≤ 1000000000) :
    FunG Try.prog [] 68 [.ptr 0 (spO none), .sl 1 0 o.length 1] [(0, ⟨spC none st.1 r st.2, false⟩), (1, ⟨o.map .u8, false⟩)] (.tup []) [(0, ⟨spC none (gS r st o.length).1 r (gS r st o.length).2, false⟩), (1, ⟨(gO r st o.length).map .u8, false⟩)] := by
  refine FunG_cc [ctPerm] [0, 1] 2 mo Try.func68 (by decide) cc68 rs68 Try.ntmps68 (by simp) rfl (by decide) rfl ?_
  have hct := ctPerm_ok CtOK_nil
  refine AW_run hct 1000 ?_
  simp (disch := omega) only [go_sem, c68, spC, spO, reduceIte, Nat.reduceAdd, Nat.reduceSub, Nat.reduceMul, Nat.reduceDiv, Nat.reduceMod, Nat.reducePow, Nat.reduceLT, Nat.reduceLeDiff, Nat.reduceBEq, Nat.reduceEqDiff, Nat.reduceAnd, Int.reduceLT, Int.reduceLE, Int.reduceEq, Int.reduceAdd, Int.reduceSub, Int.reduceMul, Int.reduceDiv, Int.reduceMod, Int.reducePow, Int.reduceToNat, Int.reduceNatCast, Int.reduceNeg, BitVec.reduceAdd, BitVec.reduceSub, BitVec.reduceMul, BitVec.reduceUDiv, BitVec.reduceUMod, BitVec.reduceDiv, BitVec.reduceMod, BitVec.reduceLT, BitVec.reduceLE, BitVec.reduceEq, BitVec.reduceToNat, BitVec.reduceToInt, BitVec.reduceOfInt, BitVec.reduceSetWidth, BitVec.reduceAnd, BitVec.reduceOr, BitVec.reduceXOr, BitVec.reduceNot, BitVec.reduceHShiftLeft, BitVec.reduceHShiftRight]
  refine AW_loop (σg none r st o) (fun j => j ≤ o.length) (fun j => o.length - j) 0 (Nat.zero_le _) (Wk_d [] (dom01 rfl) ?_) fun i hi => ?_
  · simp only [go_sem, σg, gS, spC, spO, fill80 _ rfl, reduceIte, Nat.reduceAdd, Nat.reduceSub, Nat.reduceMul, Nat.reduceDiv, Nat.reduceMod, Nat.reducePow, Nat.reduceLT, Nat.reduceLeDiff, Nat.reduceBEq, Nat.reduceEqDiff, Nat.reduceAnd, Int.reduceLT, Int.reduceLE, Int.reduceEq, Int.reduceAdd, Int.reduceSub, Int.reduceMul, Int.reduceDiv, Int.reduceMod, Int.reducePow, Int.reduceToNat, Int.reduceNatCast, Int.reduceNeg, BitVec.reduceAdd, BitVec.reduceSub, BitVec.reduceMul, BitVec.reduceUDiv, BitVec.reduceUMod, BitVec.reduceDiv, BitVec.reduceMod, BitVec.reduceLT, BitVec.reduceLE, BitVec.reduceEq, BitVec.reduceToNat, BitVec.reduceToInt, BitVec.reduceOfInt, BitVec.reduceSetWidth, BitVec.reduceAnd, BitVec.reduceOr, BitVec.reduceXOr, BitVec.reduceNot, BitVec.reduceHShiftLeft, BitVec.reduceHShiftRight]
    simp
  · refine AW_run hct 1000 ?_
    obtain ⟨hs', ha'⟩ := gS_ok hr0 hs i
    obtain ⟨hp1, hp2⟩ := prep_ok (gS_ok hr0 hs i) hr0
    have hl := fillL_len o.length (gBy r st) (fun k => o.getD k 0) i
    simp (disch := omega) only [go_sem, σg, spC, spO, reduceIte, Nat.reduceAdd, Nat.reduceSub, Nat.reduceMul, Nat.reduceDiv, Nat.reduceMod, Nat.reducePow, Nat.reduceLT, Nat.reduceLeDiff, Nat.reduceBEq, Nat.reduceEqDiff, Nat.reduceAnd, Int.reduceLT, Int.reduceLE, Int.reduceEq, Int.reduceAdd, Int.reduceSub, Int.reduceMul, Int.reduceDiv, Int.reduceMod, Int.reducePow, Int.reduceToNat, Int.reduceNatCast, Int.reduceNeg, BitVec.reduceAdd, BitVec.reduceSub, BitVec.reduceMul, BitVec.reduceUDiv, BitVec.reduceUMod, BitVec.reduceDiv, BitVec.reduceMod, BitVec.reduceLT, BitVec.reduceLE, BitVec.reduceEq, BitVec.reduceToNat, BitVec.reduceToInt, BitVec.reduceOfInt, BitVec.reduceSetWidth, BitVec.reduceAnd, BitVec.reduceOr, BitVec.reduceXOr, BitVec.reduceNot, BitVec.reduceHShiftLeft, BitVec.reduceHShiftRight]
    refine run_br (fun hb => ?_) (fun hb => ?_)
    · have hlt : i < o.length := by have := of_decide_eq_true hb; omega
      have hset := fillL_set (f := gBy r st) (g := fun k => o.getD k 0) hlt
      have hgb : gBy r st i = byteG (prep r (gS r st i)) := rfl
      by_cases hr1 : (gS r st i).2 = r
      · have hr2 : ((gS r st i).2 : Int) = r := by omega
        have hpr : prep r (gS r st i) = (perm (gS r st i).1, 0) := by simp [prep, hr1]
        rw [hpr] at hgb hp1 hp2
        simp only at hp1 hp2
        simp (disch := omega) only [go_sem, hs', Int.tdiv_eq_ediv_of_nonneg, Int.tmod_eq_emod_of_nonneg, gA, gB, gC, sA, sB, sC, tA, tB', dC, tC, List.length_map, List.length_append, ctPerm, List.set_cons_zero, List.set_cons_succ, List.getD_cons_zero, List.getD_cons_succ, hr2, hp1, Int.tdiv_eq_ediv_of_nonneg, reduceIte, Nat.reduceAdd, Nat.reduceSub, Nat.reduceMul, Nat.reduceDiv, Nat.reduceMod, Nat.reducePow, Nat.reduceLT, Nat.reduceLeDiff, Nat.reduceBEq, Nat.reduceEqDiff, Nat.reduceAnd, Int.reduceLT, Int.reduceLE, Int.reduceEq, Int.reduceAdd, Int.reduceSub, Int.reduceMul, Int.reduceDiv, Int.reduceMod, Int.reducePow, Int.reduceToNat, Int.reduceNatCast, Int.reduceNeg, BitVec.reduceAdd, BitVec.reduceSub, BitVec.reduceMul, BitVec.reduceUDiv, BitVec.reduceUMod, BitVec.reduceDiv, BitVec.reduceMod, BitVec.reduceLT, BitVec.reduceLE, BitVec.reduceEq, BitVec.reduceToNat, BitVec.reduceToInt, BitVec.reduceOfInt, BitVec.reduceSetWidth, BitVec.reduceAnd, BitVec.reduceOr, BitVec.reduceXOr, BitVec.reduceNot, BitVec.reduceHShiftLeft, BitVec.reduceHShiftRight]
        refine ⟨i + 1, by omega, Wk_d [] (dom01 rfl) ?_, by omega⟩
        simp only [go_sem, spC, spO, gS, hpr, reduceIte, Nat.reduceAdd, Nat.reduceSub, Nat.reduceMul, Nat.reduceDiv, Nat.reduceMod, Nat.reducePow, Nat.reduceLT, Nat.reduceLeDiff, Nat.reduceBEq, Nat.reduceEqDiff, Nat.reduceAnd, Int.reduceLT, Int.reduceLE, Int.reduceEq, Int.reduceAdd, Int.reduceSub, Int.reduceMul, Int.reduceDiv, Int.reduceMod, Int.reducePow, Int.reduceToNat, Int.reduceNatCast, Int.reduceNeg, BitVec.reduceAdd, BitVec.reduceSub, BitVec.reduceMul, BitVec.reduceUDiv, BitVec.reduceUMod, BitVec.reduceDiv, BitVec.reduceMod, BitVec.reduceLT, BitVec.reduceLE, BitVec.reduceEq, BitVec.reduceToNat, BitVec.reduceToInt, BitVec.reduceOfInt, BitVec.reduceSetWidth, BitVec.reduceAnd, BitVec.reduceOr, BitVec.reduceXOr, BitVec.reduceNot, BitVec.reduceHShiftLeft, BitVec.reduceHShiftRight]
        rw [← hset, hgb]
        simp [byteG]
      · have hr2 : ¬ (((gS r st i).2 : Int) = r) := by omega
        have hpr : prep r (gS r st i) = gS r st i := by simp [prep, hr1]
        rw [hpr] at hgb hp1 hp2
        simp (disch := omega) only [go_sem, hs', Int.tdiv_eq_ediv_of_nonneg, Int.tmod_eq_emod_of_nonneg, gA, gB, gC, sA, sB, sC, tA, tB', dC, tC, List.length_map, List.length_append, ctPerm, List.set_cons_zero, List.set_cons_succ, List.getD_cons_zero, List.getD_cons_succ, hr2, reduceIte, Nat.reduceAdd, Nat.reduceSub, Nat.reduceMul, Nat.reduceDiv, Nat.reduceMod, Nat.reducePow, Nat.reduceLT, Nat.reduceLeDiff, Nat.reduceBEq, Nat.reduceEqDiff, Nat.reduceAnd, Int.reduceLT, Int.reduceLE, Int.reduceEq, Int.reduceAdd, Int.reduceSub, Int.reduceMul, Int.reduceDiv, Int.reduceMod, Int.reducePow, Int.reduceToNat, Int.reduceNatCast, Int.reduceNeg, BitVec.reduceAdd, BitVec.reduceSub, BitVec.reduceMul, BitVec.reduceUDiv, BitVec.reduceUMod, BitVec.reduceDiv, BitVec.reduceMod, BitVec.reduceLT, BitVec.reduceLE, BitVec.reduceEq, BitVec.reduceToNat, BitVec.reduceToInt, BitVec.reduceOfInt, BitVec.reduceSetWidth, BitVec.reduceAnd, BitVec.reduceOr, BitVec.reduceXOr, BitVec.reduceNot, BitVec.reduceHShiftLeft, BitVec.reduceHShiftRight]
        have e1 : (((gS r st i).2 : Int) / 8).toNat = (gS r st i).2 / 8 := by omega
        have e2 : (8 * (((gS r st i).2 : Int) % 8)).toNat = 8 * ((gS r st i).2 % 8) := by omega
        refine ⟨i + 1, by omega, Wk_d [] (dom01 rfl) ?_, by omega⟩
        simp only [go_sem, spC, spO, gS, hpr, e1, e2, reduceIte, Nat.reduceAdd, Nat.reduceSub, Nat.reduceMul, Nat.reduceDiv, Nat.reduceMod, Nat.reducePow, Nat.reduceLT, Nat.reduceLeDiff, Nat.reduceBEq, Nat.reduceEqDiff, Nat.reduceAnd, Int.reduceLT, Int.reduceLE, Int.reduceEq, Int.reduceAdd, Int.reduceSub, Int.reduceMul, Int.reduceDiv, Int.reduceMod, Int.reducePow, Int.reduceToNat, Int.reduceNatCast, Int.reduceNeg, BitVec.reduceAdd, BitVec.reduceSub, BitVec.reduceMul, BitVec.reduceUDiv, BitVec.reduceUMod, BitVec.reduceDiv, BitVec.reduceMod, BitVec.reduceLT, BitVec.reduceLE, BitVec.reduceEq, BitVec.reduceToNat, BitVec.reduceToInt, BitVec.reduceOfInt, BitVec.reduceSetWidth, BitVec.reduceAnd, BitVec.reduceOr, BitVec.reduceXOr, BitVec.reduceNot, BitVec.reduceHShiftLeft, BitVec.reduceHShiftRight]
        rw [← hset, hgb]
        simp [byteG]
    · have hje : i = o.length := by have := of_decide_eq_false hb; omega
      subst hje
      simp (disch := omega) only [go_sem, reduceIte, Nat.reduceAdd, Nat.reduceSub, Nat.reduceMul, Nat.reduceDiv, Nat.reduceMod, Nat.reducePow, Nat.reduceLT, Nat.reduceLeDiff, Nat.reduceBEq, Nat.reduceEqDiff, Nat.reduceAnd, Int.reduceLT, Int.reduceLE, Int.reduceEq, Int.reduceAdd, Int.reduceSub, Int.reduceMul, Int.reduceDiv, Int.reduceMod, Int.reducePow, Int.reduceToNat, Int.reduceNatCast, Int.reduceNeg, BitVec.reduceAdd, BitVec.reduceSub, BitVec.reduceMul, BitVec.reduceUDiv, BitVec.reduceUMod, BitVec.reduceDiv, BitVec.reduceMod, BitVec.reduceLT, BitVec.reduceLE, BitVec.reduceEq, BitVec.reduceToNat, BitVec.reduceToInt, BitVec.reduceOfInt, BitVec.reduceSetWidth, BitVec.reduceAnd, BitVec.reduceOr, BitVec.reduceXOr, BitVec.reduceNot, BitVec.reduceHShiftLeft, BitVec.reduceHShiftRight]
      simp [gO, fillL_all]
set_option maxHeartbeats 4000000 in
theorem gives_s (m : Bool) (c : Int) (r : Nat) (st : La × Nat) (o : List (BitVec 8)) (hs : st.1.length = 25 ∧ st.2 ≤ r) (hr0 : 0 < r) (hr : r ≤ 200) (ho : o.length ≤ 1000000000) :
    FunG Try.prog [] 68 [.ptr 0 (spO (some (m, c))), .sl 1 0 o.length 1] [(0, ⟨spC (some (m, c)) st.1 r st.2, false⟩), (1, ⟨o.map .u8, false⟩)] (.tup []) [(0, ⟨spC (some (m, c)) (gS r st o.length).1 r (gS r st o.length).2, false⟩), (1, ⟨(gO r st o.length).map .u8, false⟩)] := by
  refine FunG_cc [ctPerm] [0, 1] 2 mo Try.func68 (by decide) cc68 rs68 Try.ntmps68 (by simp) rfl (by decide) rfl ?_
  have hct := ctPerm_ok CtOK_nil
  refine AW_run hct 1000 ?_
  simp (disch := omega) only [go_sem, c68, spC, spO, reduceIte, Nat.reduceAdd, Nat.reduceSub, Nat.reduceMul, Nat.reduceDiv, Nat.reduceMod, Nat.reducePow, Nat.reduceLT, Nat.reduceLeDiff, Nat.reduceBEq, Nat.reduceEqDiff, Nat.reduceAnd, Int.reduceLT, Int.reduceLE, Int.reduceEq, Int.reduceAdd, Int.reduceSub, Int.reduceMul, Int.reduceDiv, Int.reduceMod, Int.reducePow, Int.reduceToNat, Int.reduceNatCast, Int.reduceNeg, BitVec.reduceAdd, BitVec.reduceSub, BitVec.reduceMul, BitVec.reduceUDiv, BitVec.reduceUMod, BitVec.reduceDiv, BitVec.reduceMod, BitVec.reduceLT, BitVec.reduceLE, BitVec.reduceEq, BitVec.reduceToNat, BitVec.reduceToInt, BitVec.reduceOfInt, BitVec.reduceSetWidth, BitVec.reduceAnd, BitVec.reduceOr, BitVec.reduceXOr, BitVec.reduceNot, BitVec.reduceHShiftLeft, BitVec.reduceHShiftRight]
  refine AW_loop (σg (some (m, c)) r st o) (fun j => j ≤ o.length) (fun j => o.length - j) 0 (Nat.zero_le _) (Wk_d [] (dom01 rfl) ?_) fun i hi => ?_
  · simp only [go_sem, σg, gS, spC, spO, fill80 _ rfl, reduceIte, Nat.reduceAdd, Nat.reduceSub, Nat.reduceMul, Nat.reduceDiv, Nat.reduceMod, Nat.reducePow, Nat.reduceLT, Nat.reduceLeDiff, Nat.reduceBEq, Nat.reduceEqDiff, Nat.reduceAnd, Int.reduceLT, Int.reduceLE, Int.reduceEq, Int.reduceAdd, Int.reduceSub, Int.reduceMul, Int.reduceDiv, Int.reduceMod, Int.reducePow, Int.reduceToNat, Int.reduceNatCast, Int.reduceNeg, BitVec.reduceAdd, BitVec.reduceSub, BitVec.reduceMul, BitVec.reduceUDiv, BitVec.reduceUMod, BitVec.reduceDiv, BitVec.reduceMod, BitVec.reduceLT, BitVec.reduceLE, BitVec.reduceEq, BitVec.reduceToNat, BitVec.reduceToInt, BitVec.reduceOfInt, BitVec.reduceSetWidth, BitVec.reduceAnd, BitVec.reduceOr, BitVec.reduceXOr, BitVec.reduceNot, BitVec.reduceHShiftLeft, BitVec.reduceHShiftRight]
    simp
  · refine AW_run hct 1000 ?_
    obtain ⟨hs', ha'⟩ := gS_ok hr0 hs i
    obtain ⟨hp1, hp2⟩ := prep_ok (gS_ok hr0 hs i) hr0
    have hl := fillL_len o.length (gBy r st) (fun k => o.getD k 0) i
    simp (disch := omega) only [go_sem, σg, spC, spO, reduceIte, Nat.reduceAdd, Nat.reduceSub, Nat.reduceMul, Nat.reduceDiv, Nat.reduceMod, Nat.reducePow, Nat.reduceLT, Nat.reduceLeDiff, Nat.reduceBEq, Nat.reduceEqDiff, Nat.reduceAnd, Int.reduceLT, Int.reduceLE, Int.reduceEq, Int.reduceAdd, Int.reduceSub, Int.reduceMul, Int.reduceDiv, Int.reduceMod, Int.reducePow, Int.reduceToNat, Int.reduceNatCast, Int.reduceNeg, BitVec.reduceAdd, BitVec.reduceSub, BitVec.reduceMul, BitVec.reduceUDiv, BitVec.reduceUMod, BitVec.reduceDiv, BitVec.reduceMod, BitVec.reduceLT, BitVec.reduceLE, BitVec.reduceEq, BitVec.reduceToNat, BitVec.reduceToInt, BitVec.reduceOfInt, BitVec.reduceSetWidth, BitVec.reduceAnd, BitVec.reduceOr, BitVec.reduceXOr, BitVec.reduceNot, BitVec.reduceHShiftLeft, BitVec.reduceHShiftRight]
    refine run_br (fun hb => ?_) (fun hb => ?_)
    · have hlt : i < o.length := by have := of_decide_eq_true hb; omega
      have hset := fillL_set (f := gBy r st) (g := fun k => o.getD k 0) hlt
      have hgb : gBy r st i = byteG (prep r (gS r st i)) := rfl
      by_cases hr1 : (gS r st i).2 = r
      · have hr2 : ((gS r st i).2 : Int) = r := by omega
        have hpr : prep r (gS r st i) = (perm (gS r st i).1, 0) := by simp [prep, hr1]
        rw [hpr] at hgb hp1 hp2
        simp only at hp1 hp2
        simp (disch := omega) only [go_sem, hs', Int.tdiv_eq_ediv_of_nonneg, Int.tmod_eq_emod_of_nonneg, gA, gB, gC, sA, sB, sC, tA, tB', dC, tC, List.length_map, List.length_append, ctPerm, List.set_cons_zero, List.set_cons_succ, List.getD_cons_zero, List.getD_cons_succ, hr2, hp1, Int.tdiv_eq_ediv_of_nonneg, reduceIte, Nat.reduceAdd, Nat.reduceSub, Nat.reduceMul, Nat.reduceDiv, Nat.reduceMod, Nat.reducePow, Nat.reduceLT, Nat.reduceLeDiff, Nat.reduceBEq, Nat.reduceEqDiff, Nat.reduceAnd, Int.reduceLT, Int.reduceLE, Int.reduceEq, Int.reduceAdd, Int.reduceSub, Int.reduceMul, Int.reduceDiv, Int.reduceMod, Int.reducePow, Int.reduceToNat, Int.reduceNatCast, Int.reduceNeg, BitVec.reduceAdd, BitVec.reduceSub, BitVec.reduceMul, BitVec.reduceUDiv, BitVec.reduceUMod, BitVec.reduceDiv, BitVec.reduceMod, BitVec.reduceLT, BitVec.reduceLE, BitVec.reduceEq, BitVec.reduceToNat, BitVec.reduceToInt, BitVec.reduceOfInt, BitVec.reduceSetWidth, BitVec.reduceAnd, BitVec.reduceOr, BitVec.reduceXOr, BitVec.reduceNot, BitVec.reduceHShiftLeft, BitVec.reduceHShiftRight]
        refine ⟨i + 1, by omega, Wk_d [] (dom01 rfl) ?_, by omega⟩
        simp only [go_sem, spC, spO, gS, hpr, reduceIte, Nat.reduceAdd, Nat.reduceSub, Nat.reduceMul, Nat.reduceDiv, Nat.reduceMod, Nat.reducePow, Nat.reduceLT, Nat.reduceLeDiff, Nat.reduceBEq, Nat.reduceEqDiff, Nat.reduceAnd, Int.reduceLT, Int.reduceLE, Int.reduceEq, Int.reduceAdd, Int.reduceSub, Int.reduceMul, Int.reduceDiv, Int.reduceMod, Int.reducePow, Int.reduceToNat, Int.reduceNatCast, Int.reduceNeg, BitVec.reduceAdd, BitVec.reduceSub, BitVec.reduceMul, BitVec.reduceUDiv, BitVec.reduceUMod, BitVec.reduceDiv, BitVec.reduceMod, BitVec.reduceLT, BitVec.reduceLE, BitVec.reduceEq, BitVec.reduceToNat, BitVec.reduceToInt, BitVec.reduceOfInt, BitVec.reduceSetWidth, BitVec.reduceAnd, BitVec.reduceOr, BitVec.reduceXOr, BitVec.reduceNot, BitVec.reduceHShiftLeft, BitVec.reduceHShiftRight]
        rw [← hset, hgb]
        simp [byteG]
      · have hr2 : ¬ (((gS r st i).2 : Int) = r) := by omega
        have hpr : prep r (gS r st i) = gS r st i := by simp [prep, hr1]
        rw [hpr] at hgb hp1 hp2
        simp (disch := omega) only [go_sem, hs', Int.tdiv_eq_ediv_of_nonneg, Int.tmod_eq_emod_of_nonneg, gA, gB, gC, sA, sB, sC, tA, tB', dC, tC, List.length_map, List.length_append, ctPerm, List.set_cons_zero, List.set_cons_succ, List.getD_cons_zero, List.getD_cons_succ, hr2, reduceIte, Nat.reduceAdd, Nat.reduceSub, Nat.reduceMul, Nat.reduceDiv, Nat.reduceMod, Nat.reducePow, Nat.reduceLT, Nat.reduceLeDiff, Nat.reduceBEq, Nat.reduceEqDiff, Nat.reduceAnd, Int.reduceLT, Int.reduceLE, Int.reduceEq, Int.reduceAdd, Int.reduceSub, Int.reduceMul, Int.reduceDiv, Int.reduceMod, Int.reducePow, Int.reduceToNat, Int.reduceNatCast, Int.reduceNeg, BitVec.reduceAdd, BitVec.reduceSub, BitVec.reduceMul, BitVec.reduceUDiv, BitVec.reduceUMod, BitVec.reduceDiv, BitVec.reduceMod, BitVec.reduceLT, BitVec.reduceLE, BitVec.reduceEq, BitVec.reduceToNat, BitVec.reduceToInt, BitVec.reduceOfInt, BitVec.reduceSetWidth, BitVec.reduceAnd, BitVec.reduceOr, BitVec.reduceXOr, BitVec.reduceNot, BitVec.reduceHShiftLeft, BitVec.reduceHShiftRight]
        have e1 : (((gS r st i).2 : Int) / 8).toNat = (gS r st i).2 / 8 := by omega
        have e2 : (8 * (((gS r st i).2 : Int) % 8)).toNat = 8 * ((gS r st i).2 % 8) := by omega
        refine ⟨i + 1, by omega, Wk_d [] (dom01 rfl) ?_, by omega⟩
        simp only [go_sem, spC, spO, gS, hpr, e1, e2, reduceIte, Nat.reduceAdd, Nat.reduceSub, Nat.reduceMul, Nat.reduceDiv, Nat.reduceMod, Nat.reducePow, Nat.reduceLT, Nat.reduceLeDiff, Nat.reduceBEq, Nat.reduceEqDiff, Nat.reduceAnd, Int.reduceLT, Int.reduceLE, Int.reduceEq, Int.reduceAdd, Int.reduceSub, Int.reduceMul, Int.reduceDiv, Int.reduceMod, Int.reducePow, Int.reduceToNat, Int.reduceNatCast, Int.reduceNeg, BitVec.reduceAdd, BitVec.reduceSub, BitVec.reduceMul, BitVec.reduceUDiv, BitVec.reduceUMod, BitVec.reduceDiv, BitVec.reduceMod, BitVec.reduceLT, BitVec.reduceLE, BitVec.reduceEq, BitVec.reduceToNat, BitVec.reduceToInt, BitVec.reduceOfInt, BitVec.reduceSetWidth, BitVec.reduceAnd, BitVec.reduceOr, BitVec.reduceXOr, BitVec.reduceNot, BitVec.reduceHShiftLeft, BitVec.reduceHShiftRight]
        rw [← hset, hgb]
        simp [byteG]
    · have hje : i = o.length := by have := of_decide_eq_false hb; omega
      subst hje
      simp (disch := omega) only [go_sem, reduceIte, Nat.reduceAdd, Nat.reduceSub, Nat.reduceMul, Nat.reduceDiv, Nat.reduceMod, Nat.reducePow, Nat.reduceLT, Nat.reduceLeDiff, Nat.reduceBEq, Nat.reduceEqDiff, Nat.reduceAnd, Int.reduceLT, Int.reduceLE, Int.reduceEq, Int.reduceAdd, Int.reduceSub, Int.reduceMul, Int.reduceDiv, Int.reduceMod, Int.reducePow, Int.reduceToNat, Int.reduceNatCast, Int.reduceNeg, BitVec.reduceAdd, BitVec.reduceSub, BitVec.reduceMul, BitVec.reduceUDiv, BitVec.reduceUMod, BitVec.reduceDiv, BitVec.reduceMod, BitVec.reduceLT, BitVec.reduceLE, BitVec.reduceEq, BitVec.reduceToNat, BitVec.reduceToInt, BitVec.reduceOfInt, BitVec.reduceSetWidth, BitVec.reduceAnd, BitVec.reduceOr, BitVec.reduceXOr, BitVec.reduceNot, BitVec.reduceHShiftLeft, BitVec.reduceHShiftRight]
      simp [gO, fillL_all]
end Go.Lv
