/- A part of the proof. -/
import Derived.Test.YtlieeeembbjenaaWd
set_option linter.all false
namespace Go.Lv
open Go Go.Proofs
set_option linter.unusedSimpArgs false
set_option maxRecDepth 100000

theorem Count_funG (c : Int) (s : La) (r a : Nat) (hs : s.length = 25) : FunG Try.prog [] 44 [.ptr 0 0] [(0, ⟨spC (some (true, c)) s r a, false⟩)] (.i c) [(0, ⟨spC (some (true, c)) s r a, false⟩)] := by
  refine FunG_cc [ctNone] [0] 1 mo Try.func44 (by decide) cc44 rs44 Try.ntmps44 (by simp) rfl (by decide) rfl ?_
  refine AW_run (ctNone_ok CtOK_nil) 1000 ?_
  simp (maxSteps := 10000000) (disch := omega) only [go_sem, c44, ctNone, spC, gA, gB, gC, hs, List.length_map, List.length_append, List.getD_cons_zero, List.getD_cons_succ, reduceIte, Nat.reduceAdd, Nat.reduceSub, Nat.reduceMul, Nat.reduceDiv, Nat.reduceMod, Nat.reducePow, Nat.reduceLT, Nat.reduceLeDiff, Nat.reduceBEq, Nat.reduceEqDiff, Nat.reduceAnd, Int.reduceLT, Int.reduceLE, Int.reduceEq, Int.reduceAdd, Int.reduceSub, Int.reduceMul, Int.reduceDiv, Int.reduceMod, Int.reducePow, Int.reduceToNat, Int.reduceNatCast, Int.reduceNeg, BitVec.reduceAdd, BitVec.reduceSub, BitVec.reduceMul, BitVec.reduceUDiv, BitVec.reduceUMod, BitVec.reduceDiv, BitVec.reduceMod, BitVec.reduceLT, BitVec.reduceLE, BitVec.reduceEq, BitVec.reduceToNat, BitVec.reduceToInt, BitVec.reduceOfInt, BitVec.reduceSetWidth, BitVec.reduceAnd, BitVec.reduceOr, BitVec.reduceXOr, BitVec.reduceNot, BitVec.reduceHShiftLeft, BitVec.reduceHShiftRight]
theorem Clone_funG (c : Int) (s : La) (r a : Nat) (hs : s.length = 25) : FunG Try.prog [] 43 [.ptr 0 0] [(0, ⟨spC (some (true, c)) s r a, false⟩)] (.ptr 1 0) [(0, ⟨spC (some (true, c)) s r a, false⟩), (1, ⟨spC (some (true, c)) s r a, true⟩)] := by
  refine FunG_cc [ctNone] [0] 1 mo Try.func43 (by decide) cc43 rs43 Try.ntmps43 (by simp) rfl (by decide) rfl ?_
  refine AW_run (ctNone_ok CtOK_nil) 1000 ?_
  simp (maxSteps := 10000000) (disch := omega) only [go_sem, c43, ctNone, spC, hs, List.length_map, List.length_append, tC, tA, List.length_cons, List.length_nil, List.drop_nil, List.append_nil, reduceIte, Nat.reduceAdd, Nat.reduceSub, Nat.reduceMul, Nat.reduceDiv, Nat.reduceMod, Nat.reducePow, Nat.reduceLT, Nat.reduceLeDiff, Nat.reduceBEq, Nat.reduceEqDiff, Nat.reduceAnd, Int.reduceLT, Int.reduceLE, Int.reduceEq, Int.reduceAdd, Int.reduceSub, Int.reduceMul, Int.reduceDiv, Int.reduceMod, Int.reducePow, Int.reduceToNat, Int.reduceNatCast, Int.reduceNeg, BitVec.reduceAdd, BitVec.reduceSub, BitVec.reduceMul, BitVec.reduceUDiv, BitVec.reduceUMod, BitVec.reduceDiv, BitVec.reduceMod, BitVec.reduceLT, BitVec.reduceLE, BitVec.reduceEq, BitVec.reduceToNat, BitVec.reduceToInt, BitVec.reduceOfInt, BitVec.reduceSetWidth, BitVec.reduceAnd, BitVec.reduceOr, BitVec.reduceXOr, BitVec.reduceNot, BitVec.reduceHShiftLeft, BitVec.reduceHShiftRight]
  rw [List.take_of_length_le (by simp [hs]), Nat.min_self]
  simp [List.drop]

theorem gO_take' (r : Nat) (st : La × Nat) (n k : Nat) : (gO r st (n + k)).take n = gO r st n := by
  rw [gO_add, List.take_left' (gO_len r st n)]
def tcs (ts : List (Int × Bool)) : List AV := ts.flatMap fun t => [.i t.1, .b t.2]
theorem tcs_len (ts : List (Int × Bool)) : (tcs ts).length = 2 * ts.length := by
  induction ts with
  | nil => rfl
  | cons t ts ih => simp only [tcs, List.flatMap_cons, List.length_append, List.length_cons, List.length_nil] at ih ⊢; omega
theorem tcs_take : ∀ (n : Nat) (ts : List (Int × Bool)), (tcs ts).take (n * 2) = tcs (ts.take n)
  | 0, ts => by simp [tcs]
  | n + 1, [] => by simp [tcs]
  | n + 1, t :: ts => by
    have := tcs_take n ts
    simp only [tcs, List.flatMap_cons, List.take_succ_cons, show (n + 1) * 2 = n * 2 + 1 + 1 by omega, List.cons_append, List.nil_append] at this ⊢
    rw [this]
theorem tcs_drop : ∀ (n : Nat) (ts : List (Int × Bool)), (tcs ts).drop (n * 2) = tcs (ts.drop n)
  | 0, ts => by simp
  | n + 1, [] => by simp [tcs]
  | n + 1, t :: ts => by
    have := tcs_drop n ts
    simp only [tcs, List.flatMap_cons, List.drop_succ_cons, show (n + 1) * 2 = n * 2 + 1 + 1 by omega, List.cons_append, List.nil_append] at this ⊢
    rw [this]
theorem tcs_at (ts : List (Int × Bool)) (i : Nat) (h : i < ts.length) : ((tcs ts).drop (i * 2)).take 2 = [.i (ts.getD i (0, false)).1, .b (ts.getD i (0, false)).2] := by
  rw [tcs_drop, List.drop_eq_getElem_cons h]
  simp only [tcs, List.flatMap_cons, List.cons_append, List.nil_append, List.take_succ_cons, List.take_zero]
  simp [List.getD_eq_getElem?_getD, h]
@[go_sem] theorem tcs_ren (m : List (Nat × Nat)) (ts : List (Int × Bool)) : ren.renL m (tcs ts) = tcs ts := by
  induction ts with
  | nil => rfl
  | cons t ts ih => simp only [tcs, List.flatMap_cons, ren_app] at ih ⊢; rw [ih]; rfl
@[go_sem] theorem tcs_idk (n : Nat) (ts : List (Int × Bool)) : idk.idkL n (tcs ts) = True := by
  induction ts with
  | nil => simp [tcs, idk.idkL]
  | cons t ts ih => simp only [tcs, List.flatMap_cons, idk_app] at ih ⊢; rw [ih]; simp [idk.idkL, idk]
theorem gO_cut (r : Nat) (st : La × Nat) (a n m : Nat) (h : a + n ≤ m) : ((gO r st m).drop a).take n = gO r (gS r st a) n := by
  obtain ⟨k, rfl⟩ := Nat.exists_eq_add_of_le h
  rw [Nat.add_assoc, gO_add, List.drop_left' (gO_len r st a), gO_take' ]

def στ (r : Nat) (S : La) (al : List (BitVec 8)) (us : List (Int × Bool)) (i at' : Nat) : St :=
  ⟨[(8, .ptr 0 0), (9, .ros true al.length (al.map .u8)), (10, .i at'), (39, .ros false us.length (tcs us)), (40, .i us.length), (41, .i i)], [(0, ⟨spC (some (true, at')) (gS r (S, 0) at').1 r (gS r (S, 0) at').2, true⟩)], 1⟩
def στ2 (r : Nat) (S : La) (al : List (BitVec 8)) (us : List (Int × Bool)) (i at' : Nat) (t : Int × Bool) : St :=
  ⟨[(8, .ptr 0 0), (9, .ros true al.length (al.map .u8)), (10, .i at'), (11, .i i), (12, .ptr 1 0), (39, .ros false us.length (tcs us)), (40, .i us.length), (41, .i i), (57, .b false), (59, .i at')], [(0, ⟨spC (some (true, at')) (gS r (S, 0) at').1 r (gS r (S, 0) at').2, true⟩), (1, ⟨[.i t.1, .b t.2], true⟩)], 2⟩

end Go.Lv
