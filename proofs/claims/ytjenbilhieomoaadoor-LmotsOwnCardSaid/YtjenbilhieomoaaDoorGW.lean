/- A part of the proof (GW). -/
import Derived.Test.YtjenbilhieomoaaDoorGU
import Derived.Test.YtjenbilhieomoaaDoorFD
set_option linter.all false
namespace Go.Lv
open Go Go.Proofs
set_option linter.unusedSimpArgs false
set_option maxRecDepth 100000

/-! ## The document's round -/
/-- the columns' sums, one lane after the other -/
def sF (A : La) : Nat → La
  | 0 => List.replicate 5 0
  | i + 1 => (sF A i).set (i % 5) ((sF A i).getD (i % 5) 0 ^^^ A.getD i 0)
theorem sF_len (A : La) : ∀ i, (sF A i).length = 5
  | 0 => rfl
  | i + 1 => by simp [sF, sF_len A i]
theorem sF_all (A : La) : sF A 25 = cL A := by
  simp only [sF, cL, colC, List.replicate, List.range_succ, List.range_zero, List.nil_append, List.cons_append, List.map_cons, List.map_nil]
  simp
theorem sF0 (A : La) : (sF A 0).map AV.u64 = [.u64 0, .u64 0, .u64 0, .u64 0, .u64 0] := rfl

def tA' (A : La) (k : Nat) : BitVec 64 := A.getD k 0 ^^^ ((cL A).getD ((k + 4) % 5) 0 ^^^ rl ((cL A).getD ((k + 1) % 5) 0) 1)
def thL (A : La) : La := (List.range 25).map (tA' A)
theorem thL_len (A : La) : (thL A).length = 25 := by simp [thL]
/-- the lanes' way -/
def wx (t : Nat) : Nat := [1, 0, 2, 1, 2, 3, 3, 0, 1, 3, 1, 4, 4, 0, 3, 4, 3, 2, 2, 0, 4, 2, 4, 1, 1].getD t 0
def wy (t : Nat) : Nat := [0, 2, 1, 2, 3, 3, 0, 1, 3, 1, 4, 4, 0, 3, 4, 3, 2, 2, 0, 4, 2, 4, 1, 1, 0].getD t 0
theorem way_ok : ∀ t, t < 24 → wx (t + 1) = wy t ∧ wy (t + 1) = (2 * wx t + 3 * wy t) % 5 ∧ wx t < 5 ∧ wy t < 5 := by decide
def wS (t : Nat) : Nat := 5 * wy t + wx t
def wD (t : Nat) : Nat := 5 * ((2 * wx t + 3 * wy t) % 5) + wy t
theorem way_ok2 : ∀ t, t < 24 → wD t < 25 ∧ wS t < 25 ∧ inv (wD t) = wS t ∧ (offs.getD (wS t) 0).toNat = (t + 1) * (t + 2) / 2 % 64 := by decide
theorem rl_zero (x : BitVec 64) : rl x 0 = x := by
  have e : x >>> 64 = 0 := by
    apply BitVec.eq_of_toNat_eq
    rw [BitVec.toNat_ushiftRight, Nat.shiftRight_eq_div_pow]
    exact Nat.div_eq_of_lt x.isLt
  simp [rl, e]
def bR (A : La) : Nat → La
  | 0 => (List.replicate 25 0).set 0 (rl (A.getD 0 0) 0)
  | t + 1 => (bR A t).set (wD t) (rl (A.getD (wS t) 0) ((t + 1) * (t + 2) / 2 % 64))
theorem bR_len (A : La) : ∀ i, (bR A i).length = 25
  | 0 => rfl
  | i + 1 => by simp [bR, bR_len A i]
theorem bR0 (A : La) : (bR A 0).map AV.u64 = z25.set 0 (.u64 (A.getD 0 0)) := by rw [bR, rl_zero]; rfl
def tin (k : Nat) : Nat := [0, 24, 18, 6, 12, 7, 23, 2, 9, 22, 1, 3, 17, 16, 20, 13, 8, 4, 5, 15, 19, 10, 21, 14, 11].getD k 0
theorem tin_ok : ∀ t, t < 24 → tin (wD t) = t + 1 ∧ ∀ k, k < 25 → tin k = t + 1 → k = wD t := by decide
theorem bR_fill (A : La) : ∀ t, t ≤ 24 → bR A t = (List.range 25).map fun k => if tin k ≤ t then rl (A.getD (inv k) 0) (offs.getD (inv k) 0).toNat else 0
  | 0, _ => rfl
  | t + 1, h => by
    rw [bR, bR_fill A t (by omega)]
    obtain ⟨v1, v2, v3, v4⟩ := way_ok2 t (by omega)
    obtain ⟨d1, d2⟩ := tin_ok t (by omega)
    apply List.ext_getElem
    · simp
    · intro k h1 h2
      have hk : k < 25 := by simpa using h2
      rw [List.getElem_set]
      by_cases e : wD t = k
      · subst e; simp [d1, v3, ← v4]
      · rw [if_neg e]
        have hne : tin k ≠ t + 1 := fun h => e (d2 k hk h).symm
        have : (tin k ≤ t + 1) = (tin k ≤ t) := by apply propext; omega
        simp [this]
theorem bR_all (A : La) : bR A 24 = (List.range 25).map fun k => rl (A.getD (inv k) 0) (offs.getD (inv k) 0).toNat := by
  rw [bR_fill A 24 (by omega)]
  apply List.map_congr_left
  intro k hk
  have h : ∀ k, k < 25 → tin k ≤ 24 := by decide
  rw [if_pos (h k (by simpa using hk))]
theorem bR_bL (A : La) : bR (thL A) 24 = bL A offs := by
  rw [bR_all]
  apply List.map_congr_left
  intro k hk
  have hi : ∀ k, k < 25 → inv k < 25 := by decide
  have hk' := hi k (by simpa using hk)
  rw [tB, thL, mapr_get hk', tA', dL, mapr_get (show inv k % 5 < 5 by omega), thD, show (inv k % 5 + 4) % 5 = (inv k + 4) % 5 by omega, show (inv k % 5 + 1) % 5 = (inv k + 1) % 5 by omega]

def σr1 (A : La) (c : BitVec 64) (i : Nat) : St :=
  ⟨[(1, .u64 c), (2, .ptr 0 0), (4, .ptr 1 0), (5, .ptr 2 0), (16, .i i)], [(0, ⟨A.map .u64, true⟩), (1, ⟨z25, true⟩), (2, ⟨(sF A i).map .u64, true⟩)], 3⟩
def σr2 (A : La) (c : BitVec 64) (i : Nat) : St :=
  ⟨[(1, .u64 c), (2, .ptr 0 0), (4, .ptr 1 0), (5, .ptr 2 0), (29, .i i)], [(0, ⟨(fillL 25 (tA' A) (fun k => A.getD k 0) i).map .u64, true⟩), (1, ⟨z25, true⟩), (2, ⟨(cL A).map .u64, true⟩)], 3⟩
def σr3 (A : La) (c : BitVec 64) (t : Nat) : St :=
  ⟨[(1, .u64 c), (2, .ptr 0 0), (4, .ptr 1 0), (8, .ptr 3 0), (9, .i (wx t : Nat)), (10, .i (wy t : Nat)), (53, .i t)], [(0, ⟨(thL A).map .u64, true⟩), (1, ⟨z25, true⟩), (3, ⟨(bR (thL A) t).map .u64, true⟩)], 4⟩
def σr4 (A : La) (c : BitVec 64) (i : Nat) : St :=
  ⟨[(1, .u64 c), (2, .ptr 0 0), (4, .ptr 1 0), (8, .ptr 3 0), (85, .i i)], [(0, ⟨(fillL 25 (rowL (bL A offs)) (fun k => (thL A).getD k 0) i).map .u64, true⟩), (1, ⟨z25, true⟩), (3, ⟨(bL A offs).map .u64, true⟩)], 4⟩

theorem fillTh (A : La) : fillL 25 (tA' A) (fun k => A.getD k 0) 25 = thL A := fillL_all _ _ _

end Go.Lv

namespace Go.Lv
open Go Go.Proofs
set_option linter.unusedSimpArgs false
set_option maxRecDepth 100000

/-! ## The round's constants, bit by bit -/
def lstep (o : List Bool) : List Bool := [!decide (false = o.getD 7 false), o.getD 0 false, o.getD 1 false, o.getD 2 false, !decide (o.getD 3 false = o.getD 7 false), !decide (o.getD 4 false = o.getD 7 false), !decide (o.getD 5 false = o.getD 7 false), o.getD 6 false, o.getD 7 false]
def lf : Nat → List Bool
  | 0 => [true, false, false, false, false, false, false, false, false]
  | k + 1 => lstep (lf k)
def lg (k i : Nat) : Bool := (lf k).getD i false
def lc : Nat → List AV
  | 0 => [.b true, .b false, .b false, .b false, .b false, .b false, .b false, .b false]
  | k + 1 => [.b (lg (k + 1) 0), .b (lg (k + 1) 1), .b (lg (k + 1) 2), .b (lg (k + 1) 3), .b (lg (k + 1) 4), .b (lg (k + 1) 5), .b (lg (k + 1) 6), .b (lg (k + 1) 7), .b (lg (k + 1) 8)]
def rcS (t : Nat) : Bool := lg t 0
def σrc (n k : Nat) : St := ⟨[(3, .sl 0 0 8 1), (9, .i n), (10, .i k)], [(0, ⟨lc k, true⟩)], 1⟩
def conF (i : Nat) : Nat → BitVec 64
  | 0 => 0
  | j + 1 => if rcS (j + 7 * i) then conF i j ||| (1#64 <<< (2 ^ j - 1)) else conF i j
def σcon (i j : Nat) : St := ⟨[(0, .i i), (3, .u64 (conF i j)), (4, .u64 (BitVec.ofNat 64 (2 ^ j))), (6, .i j)], [], 0⟩
theorem con_all : ∀ i, i < 24 → conF i 7 = kcon.getD i 0 := by decide +kernel
theorem pow2_7 : ∀ j, j < 7 → (BitVec.ofNat 64 (2 ^ j) - 1).toNat = 2 ^ j - 1 ∧ 2 ^ j - 1 < 64 ∧ BitVec.ofNat 64 (2 ^ j) * 2 = BitVec.ofNat 64 (2 ^ (j + 1)) := by decide
def σslow (A : La) (i : Nat) : St := ⟨[(1, .ptr 0 0), (2, .ptr 1 0), (4, .i i)], [(0, ⟨(permF kcon A i).map .u64, true⟩), (1, ⟨z25, true⟩)], 2⟩
def σrpm (A : La) (i : Nat) : St := ⟨[(1, .ptr 0 0), (2, .ptr 1 0), (3, .ptr 2 0), (6, .i i)], [(0, ⟨(permF kcon A i).map .u64, true⟩), (1, ⟨z25, true⟩), (2, ⟨kcon.map .u64, true⟩)], 3⟩
end Go.Lv

namespace Go.Lv
open Go Go.Proofs
set_option linter.unusedSimpArgs false
set_option maxRecDepth 100000

/-! ## The document's sponge, plainly -/
def puts (s : La) (a : Nat) : List (BitVec 8) → La
  | [] => s
  | x :: l => puts (putS s a x) (a + 1) l
theorem puts_len : ∀ (l : List (BitVec 8)) (s : La) (a : Nat), (puts s a l).length = s.length
  | [], s, a => rfl
  | x :: l, s, a => by rw [puts, puts_len l, putS_len]
theorem puts_app : ∀ (l m : List (BitVec 8)) (s : La) (a : Nat), puts s a (l ++ m) = puts (puts s a l) (a + l.length) m
  | [], m, s, a => rfl
  | x :: l, m, s, a => by
    rw [List.cons_append, puts, puts, puts_app l m, List.length_cons]
    congr 1; omega
theorem absorb_lt {r : Nat} : ∀ (l : List (BitVec 8)) (s : La) (a : Nat), a + l.length < r → absorb r (s, a) l = (puts s a l, a + l.length)
  | [], s, a, _ => rfl
  | x :: l, s, a, h => by
    simp only [List.length_cons] at h
    show absorb r (stepA r (s, a) x) l = _
    rw [stepA, if_neg (show ¬ a + 1 = r by omega), absorb_lt l _ _ (by omega), puts, List.length_cons]
    congr 1; omega
theorem absorb_eq {r : Nat} (l : List (BitVec 8)) (s : La) (a : Nat) (hl : l ≠ []) (h : a + l.length = r) : absorb r (s, a) l = (perm (puts s a l), 0) := by
  rw [← List.dropLast_concat_getLast hl, absorb_app, absorb_lt l.dropLast s a (by rw [List.length_dropLast]; have := List.length_pos_iff.2 hl; omega), puts_app]
  have hlen : a + l.dropLast.length + 1 = r := by simp only [List.length_dropLast]; have := List.length_pos_iff.2 hl; omega
  show stepA r _ _ = _
  rw [stepA, if_pos hlen]
  rfl
theorem absorb_pos {r : Nat} : ∀ (l : List (BitVec 8)) (s : La) (a : Nat), a < r → (absorb r (s, a) l).2 = (a + l.length) % r
  | [], s, a, h => by simp [absorb, Nat.mod_eq_of_lt h]
  | x :: l, s, a, h => by
    show (absorb r (stepA r (s, a) x) l).2 = _
    rw [stepA]
    split
    · rename_i e
      simp only at e
      rw [absorb_pos l _ _ (by omega), List.length_cons, show a + (l.length + 1) = r + (0 + l.length) by omega, Nat.add_mod_left]
    · rename_i e
      simp only at e
      rw [absorb_pos l _ _ (by omega), List.length_cons]
      congr 1; omega
theorem putS_xor (s : La) (a : Nat) (x y : BitVec 8) : putS (putS s a x) a y = putS s a (x ^^^ y) := by
  simp only [putS, List.set_set]
  by_cases h : a / 8 < s.length
  · congr 1
    simp only [List.getD_eq_getElem?_getD, List.getElem?_set, h, if_true, Option.getD_some]
    rw [BitVec.setWidth_xor, BitVec.shiftLeft_xor_distrib, BitVec.xor_assoc]
  · rw [List.set_eq_of_length_le (by omega), List.set_eq_of_length_le (by omega)]
theorem putS_zero (s : La) (a : Nat) : putS s a 0 = s := by
  simp only [putS]
  apply List.ext_getElem
  · simp
  · intro i h1 h2
    rw [List.getElem_set]
    split
    · rename_i e; subst e; simp [List.getD_eq_getElem?_getD, h2]
    · rfl
theorem puts_zero : ∀ (k : Nat) (s : La) (a : Nat), puts s a (List.replicate k 0) = s
  | 0, s, a => rfl
  | k + 1, s, a => by rw [List.replicate_succ, puts, putS_zero, puts_zero k]

def padP (text : List (BitVec 8)) (e : BitVec 8) (k : Nat) : List (BitVec 8) := text ++ [e] ++ List.replicate k 0
theorem padP_len (text : List (BitVec 8)) (e : BitVec 8) (k : Nat) : (padP text e k).length = text.length + 1 + k := by simp [padP]; omega
def padX (text : List (BitVec 8)) (e : BitVec 8) (k : Nat) : List (BitVec 8) := (padP text e k).set (text.length + k) ((padP text e k).getD (text.length + k) 0 ^^^ 128)
theorem padX_len (text : List (BitVec 8)) (e : BitVec 8) (k : Nat) : (padX text e k).length = text.length + 1 + k := by simp [padX, padP_len]
theorem padX_zero (text : List (BitVec 8)) (e : BitVec 8) : padX text e 0 = text ++ [e ^^^ 128] := by
  simp [padX, padP, List.getD_eq_getElem?_getD]
theorem padX_succ (text : List (BitVec 8)) (e : BitVec 8) (k : Nat) : padX text e (k + 1) = text ++ (e :: (List.replicate k 0 ++ [128])) := by
  have h : padP text e (k + 1) = (text ++ e :: List.replicate k 0) ++ [0] := by
    simp [padP, List.replicate_succ']
  have hl : (text ++ e :: List.replicate k (0 : BitVec 8)).length = text.length + (k + 1) := by simp
  rw [padX, h, ← hl, List.set_append_right _ _ (Nat.le_refl _)]
  simp [List.getD_eq_getElem?_getD]

/-- a padded text, absorbed -/
theorem pad_law {r : Nat} (text : List (BitVec 8)) (e : BitVec 8) (k : Nat) (hr : 0 < r) (hk : k < r) (hm : (text.length + 1 + k) % r = 0) : absorb r (z0, 0) (padX text e k) = (takes0 r e text, 0) := by
  have hp := absorb_pos (r := r) text z0 0 hr
  rw [Nat.zero_add] at hp
  have hlt : (absorb r (z0, 0) text).2 < r := by rw [hp]; exact Nat.mod_lt _ hr
  have hsum : (absorb r (z0, 0) text).2 + 1 + k = r := by
    rw [hp]
    have h1 := Nat.div_add_mod text.length r
    have h2 : (text.length % r + 1 + k) % r = 0 := by
      rw [← h1, show r * (text.length / r) + text.length % r + 1 + k = (text.length % r + 1 + k) + r * (text.length / r) by omega, Nat.add_mul_mod_self_left] at hm
      exact hm
    have h3 := Nat.mod_lt text.length hr
    obtain ⟨q, hq⟩ := Nat.dvd_of_mod_eq_zero h2
    have : q = 1 := by
      rcases Nat.lt_or_ge q 2 with h | h
      · rcases (by omega : q = 0 ∨ q = 1) with rfl | rfl
        · omega
        · rfl
      · have := Nat.mul_le_mul (Nat.le_refl r) h
        omega
    subst this; omega
  rw [takes0, takesS]
  rcases hst : absorb r (z0, 0) text with ⟨s1, a1⟩
  rw [hst] at hsum hlt
  simp only at hsum hlt ⊢
  cases k with
  | zero =>
    rw [padX_zero, absorb_app, hst, absorb_eq _ _ _ (by simp) (by simp; omega)]
    simp only [puts]
    rw [show r - 1 = a1 by omega, putS_xor]
  | succ k =>
    rw [padX_succ, absorb_app, hst, absorb_eq _ _ _ (by simp) (by simp; omega)]
    simp only [puts]
    rw [puts_app, puts_zero]
    simp only [puts, List.length_replicate]
    rw [show a1 + 1 + k = r - 1 by omega]

/-- block after block -/
def putsAt (s : La) (P : List (BitVec 8)) (at' : Nat) : Nat → La
  | 0 => s
  | i + 1 => putS (putsAt s P at' i) i (P.getD (at' + i) 0)
theorem putsAt_len (s : La) (P : List (BitVec 8)) (at' : Nat) : ∀ i, (putsAt s P at' i).length = s.length
  | 0 => rfl
  | i + 1 => by rw [putsAt, putS_len, putsAt_len s P at' i]
theorem putsAt_eq (s : La) (P : List (BitVec 8)) (at' : Nat) : ∀ i, at' + i ≤ P.length → putsAt s P at' i = puts s 0 ((P.drop at').take i)
  | 0, _ => by simp [putsAt, puts]
  | i + 1, h => by
    rw [putsAt, putsAt_eq s P at' i (by omega), List.take_succ_eq_append_getElem (by simp; omega), puts_app]
    simp only [puts, List.length_take, List.length_drop, List.getElem_drop, Nat.zero_add]
    rw [show min i (P.length - at') = i by omega]
    simp [List.getD_eq_getElem?_getD, show at' + i < P.length by omega]
def absR (P : List (BitVec 8)) (r : Nat) : Nat → La
  | 0 => z0
  | q + 1 => perm (putsAt (absR P r q) P (q * r) r)
theorem absR_len (P : List (BitVec 8)) (r : Nat) : ∀ q, (absR P r q).length = 25
  | 0 => rfl
  | q + 1 => perm_len (by rw [putsAt_len]; exact absR_len P r q)
theorem absR_eq (P : List (BitVec 8)) {r : Nat} (hr : 0 < r) : ∀ q, q * r ≤ P.length → absorb r (z0, 0) (P.take (q * r)) = (absR P r q, 0)
  | 0, _ => by simp [absR, absorb]
  | q + 1, h => by
    have h1 : q * r + r ≤ P.length := by rw [Nat.succ_mul] at h; exact h
    rw [Nat.succ_mul, List.take_add, absorb_app, absR_eq P hr q (by omega)]
    rw [absorb_eq _ _ _ (by intro e; have := congrArg List.length e; simp at this; omega) (by simp; omega), absR, putsAt_eq _ _ _ _ h1]

/-- block after block of output -/
theorem gS_blk {r : Nat} {st : La × Nat} {A : La} (hp : prep r st = (A, 0)) : ∀ i, i + 1 ≤ r → gS r st (i + 1) = (A, i + 1) ∧ gBy r st i = byteG (A, i)
  | 0, _ => ⟨by show ((prep r st).1, (prep r st).2 + 1) = _; rw [hp], by show byteG (prep r st) = _; rw [hp]⟩
  | i + 1, h => by
    have ih := (gS_blk hp i (by omega)).1
    have e : prep r (gS r st (i + 1)) = (A, i + 1) := by rw [ih, prep, if_neg (show ¬ i + 1 = r by omega)]
    exact ⟨by show ((prep r (gS r st (i + 1))).1, (prep r (gS r st (i + 1))).2 + 1) = _; rw [e], by show byteG (prep r (gS r st (i + 1))) = _; rw [e]⟩
def bytesL (A : La) (n : Nat) : List (BitVec 8) := (List.range n).map fun i => byteG (A, i)
theorem gO_blk {r : Nat} {st : La × Nat} {A : La} (hp : prep r st = (A, 0)) {t : Nat} (ht : t ≤ r) : gO r st t = bytesL A t := by
  apply List.map_congr_left
  intro i hi
  exact (gS_blk hp i (by have := List.mem_range.1 hi; omega)).2
/-- behind whole blocks: ready for the next one -/
theorem gS_full {r : Nat} (hr : 0 < r) (S : La) : ∀ q, prep r (gS r (S, 0) (q * r)) = (if q = 0 then S else perm (gS r (S, 0) (q * r)).1, 0)
  | 0 => by
    simp only [Nat.zero_mul, gS, prep]
    rw [if_neg (show ¬ 0 = r by omega)]; rfl
  | q + 1 => by
    have ih := gS_full hr S q
    obtain ⟨r, rfl⟩ := Nat.exists_eq_succ_of_ne_zero (by omega : r ≠ 0)
    have h := (gS_blk ih r (Nat.le_refl _)).1
    rw [Nat.succ_mul, ← gS_add]
    rw [h, prep, if_pos rfl]
    rfl
end Go.Lv

namespace Go.Lv
open Go Go.Proofs
set_option linter.unusedSimpArgs false
set_option maxRecDepth 100000

theorem bytesL_len (A : La) (n : Nat) : (bytesL A n).length = n := by simp [bytesL]
theorem bytesL_succ (A : La) (n : Nat) : bytesL A (n + 1) = bytesL A n ++ [byteG (A, n)] := by simp [bytesL, List.range_succ]
def σby (A : La) (n : Int) (i : Nat) : St := ⟨[(2, .ptr 0 0), (5, .sl 1 0 i 1), (8, .i n), (9, .i i)], [(0, ⟨A.map .u64, true⟩), (1, ⟨(bytesL A i).map .u8, true⟩)], 2⟩
end Go.Lv

namespace Go.Lv
open Go Go.Proofs
set_option linter.unusedSimpArgs false
set_option maxRecDepth 100000

def A4 {α β γ δ : Type} [Enc α] [Enc β] [Enc γ] [Enc δ] (f : α → β → γ → δ → R) : List AV → R
  | [a, b, c, d] => (Enc.ok α a ∧ Enc.ok β b ∧ Enc.ok γ c ∧ Enc.ok δ d ∧ (f (Enc.dec a) (Enc.dec b) (Enc.dec c) (Enc.dec d)).1, (f (Enc.dec a) (Enc.dec b) (Enc.dec c) (Enc.dec d)).2)
  | _ => (False, .junk)
theorem Row4 {P : Program} {Gl : List (Nat × List AV)} {n : Nat} {α β γ δ : Type} [Enc α] [Enc β] [Enc γ] [Enc δ] {f : α → β → γ → δ → R} (h : ∀ x y z u, (f x y z u).1 → Fun P Gl n [Enc.enc x, Enc.enc y, Enc.enc z, Enc.enc u] (f x y z u).2) : Row P Gl n (A4 f) := by
  intro l ha
  unfold A4 at ha ⊢
  split at ha
  · obtain ⟨h1, h2, h4, h5, h3⟩ := ha
    have := h _ _ _ _ h3
    rw [← Enc.sound _ h1, ← Enc.sound _ h2, ← Enc.sound _ h4, ← Enc.sound _ h5] at this
    exact this
  · exact ha.elim
attribute [go_sem] A4

def σs1 (r : Nat) (e : BitVec 8) (text : List (BitVec 8)) (n : Int) (k : Nat) : St :=
  ⟨[(0, .i r), (3, .i n), (9, .sl 0 0 (padP text e k).length 1)], [(0, ⟨(padP text e k).map .u8, true⟩)], 1⟩
def σs2 (r : Nat) (P : List (BitVec 8)) (n : Int) (q : Nat) : St :=
  ⟨[(0, .i r), (3, .i n), (9, .sl 0 0 P.length 1), (10, .ptr 1 0), (11, .i (q * r : Nat))], [(0, ⟨P.map .u8, true⟩), (1, ⟨(absR P r q).map .u64, true⟩)], 2⟩
def σs3 (r : Nat) (P : List (BitVec 8)) (n : Int) (q i : Nat) : St :=
  ⟨[(0, .i r), (3, .i n), (9, .sl 0 0 P.length 1), (10, .ptr 1 0), (11, .i (q * r : Nat)), (42, .i r), (43, .i i)], [(0, ⟨P.map .u8, true⟩), (1, ⟨(putsAt (absR P r q) P (q * r) i).map .u64, true⟩)], 2⟩
def σs4 (r : Nat) (S : La) (n : Int) (m : Nat) : St :=
  ⟨[(0, .i r), (3, .i n), (10, .ptr 1 0), (13, .sl 2 0 m 1)], [(1, ⟨(gS r (S, 0) m).1.map .u64, true⟩), (2, ⟨(gO r (S, 0) m).map .u8, true⟩)], 3⟩

theorem pad_ex (r L : Nat) (hr : 0 < r) : ∃ K, K < r ∧ (L + 1 + K) % r = 0 := by
  refine ⟨(r - (L + 1) % r) % r, Nat.mod_lt _ hr, ?_⟩
  have h1 := Nat.mod_lt (L + 1) hr
  rw [Nat.add_mod_mod, Nat.add_mod]
  rcases Nat.eq_zero_or_pos ((L + 1) % r) with h | h
  · rw [h]; simp
  · have h2 := Nat.div_add_mod (L + 1) r
    rw [← Nat.add_mod, ← h2]
    rw [show r * ((L + 1) / r) + (L + 1) % r + (r - (r * ((L + 1) / r) + (L + 1) % r) % r) = r * ((L + 1) / r) + r by rw [h2]; omega]
    rw [← Nat.mul_succ, Nat.mul_mod_right]
theorem pad_uniq {r L k K : Nat} (h1 : (L + k) % r = 0) (h2 : (L + K) % r = 0) (hk : k ≤ K) (hK : K < r) : k = K := by
  have e : (K - k) % r = 0 := by
    obtain ⟨a, ha⟩ := Nat.dvd_of_mod_eq_zero h1
    obtain ⟨b, hb⟩ := Nat.dvd_of_mod_eq_zero h2
    have : K - k = r * b - r * a := by omega
    rw [this, ← Nat.mul_sub]; exact Nat.mul_mod_right _ _
  rw [Nat.mod_eq_of_lt (by omega)] at e
  omega

theorem blk_step {r : Nat} (hr : 0 < r) (S : La) (q t : Nat) (h1 : 1 ≤ t) (h2 : t ≤ r) : gO r (S, 0) (q * r + t) = gO r (S, 0) (q * r) ++ bytesL (if q = 0 then S else perm (gS r (S, 0) (q * r)).1) t ∧ (gS r (S, 0) (q * r + t)).1 = if q = 0 then S else perm (gS r (S, 0) (q * r)).1 := by
  have hp := gS_full hr S q
  refine ⟨by rw [gO_add, gO_blk hp h2], ?_⟩
  obtain ⟨t, rfl⟩ := Nat.exists_eq_succ_of_ne_zero (by omega : t ≠ 0)
  rw [← gS_add, (gS_blk hp t h2).1]

end Go.Lv

namespace Go.Lv
open Go Go.Proofs
set_option linter.unusedSimpArgs false
set_option maxRecDepth 100000

end Go.Lv

