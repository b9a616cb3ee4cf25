/- A part of the proof. -/
import Derived.Test.YtlieeeembbjenaaUr
import Derived.Test.YtlieeeembbjenaaVb
set_option linter.all false
namespace Go.Lv
open Go Go.Proofs
set_option linter.unusedSimpArgs false
set_option maxRecDepth 100000

/-! ## The document's sponge, plainly -/
def puts (s : La) (a : Nat) : List (BitVec 8) → La
  | [] => s
  | x :: l => puts (putS s a x) (a + 1) l
theorem puts_len : ∀ (l : List (BitVec 8)) (s : La) (a : Nat), (puts s a l).length = s.length
  | [], s, a => rfl
  | x :: l, s, a => by rw [puts, puts_len l, putS_len]
theorem puts_app : ∀ (l m : List (BitVec 8)) (s : La) (a : Nat), puts s a (l ++ m) = puts (puts s a l) (a + l.length) m
  | [], m, s, a => rfl
  | x :: l, m, s, a => by
    rw [List.cons_append, puts, puts, puts_app l m, List.length_cons]
    congr 1; omega
theorem absorb_lt {r : Nat} : ∀ (l : List (BitVec 8)) (s : La) (a : Nat), a + l.length < r → absorb r (s, a) l = (puts s a l, a + l.length)
  | [], s, a, _ => rfl
  | x :: l, s, a, h => by
    simp only [List.length_cons] at h
    show absorb r (stepA r (s, a) x) l = _
    rw [stepA, if_neg (show ¬ a + 1 = r by omega), absorb_lt l _ _ (by omega), puts, List.length_cons]
    congr 1; omega
theorem absorb_eq {r : Nat} (l : List (BitVec 8)) (s : La) (a : Nat) (hl : l ≠ []) (h : a + l.length = r) : absorb r (s, a) l = (perm (puts s a l), 0) := by
  rw [← List.dropLast_concat_getLast hl, absorb_app, absorb_lt l.dropLast s a (by rw [List.length_dropLast]; have := List.length_pos_iff.2 hl; omega), puts_app]
  have hlen : a + l.dropLast.length + 1 = r := by simp only [List.length_dropLast]; have := List.length_pos_iff.2 hl; omega
  show stepA r _ _ = _
  rw [stepA, if_pos hlen]
  rfl
theorem absorb_pos {r : Nat} : ∀ (l : List (BitVec 8)) (s : La) (a : Nat), a < r → (absorb r (s, a) l).2 = (a + l.length) % r
  | [], s, a, h => by simp [absorb, Nat.mod_eq_of_lt h]
  | x :: l, s, a, h => by
    show (absorb r (stepA r (s, a) x) l).2 = _
    rw [stepA]
    split
    · rename_i e
      simp only at e
      rw [absorb_pos l _ _ (by omega), List.length_cons, show a + (l.length + 1) = r + (0 + l.length) by omega, Nat.add_mod_left]
    · rename_i e
      simp only at e
      rw [absorb_pos l _ _ (by omega), List.length_cons]
      congr 1; omega
theorem putS_xor (s : La) (a : Nat) (x y : BitVec 8) : putS (putS s a x) a y = putS s a (x ^^^ y) := by
  simp only [putS, List.set_set]
  by_cases h : a / 8 < s.length
  · congr 1
    simp only [List.getD_eq_getElem?_getD, List.getElem?_set, h, if_true, Option.getD_some]
    rw [BitVec.setWidth_xor, BitVec.shiftLeft_xor_distrib, BitVec.xor_assoc]
  · rw [List.set_eq_of_length_le (by omega), List.set_eq_of_length_le (by omega)]
theorem putS_zero (s : La) (a : Nat) : putS s a 0 = s := by
  simp only [putS]
  apply List.ext_getElem
  · simp
  · intro i h1 h2
    rw [List.getElem_set]
    split
    · rename_i e; subst e; simp [List.getD_eq_getElem?_getD, h2]
    · rfl
theorem puts_zero : ∀ (k : Nat) (s : La) (a : Nat), puts s a (List.replicate k 0) = s
  | 0, s, a => rfl
  | k + 1, s, a => by rw [List.replicate_succ, puts, putS_zero, puts_zero k]

def padP (text : List (BitVec 8)) (e : BitVec 8) (k : Nat) : List (BitVec 8) := text ++ [e] ++ List.replicate k 0
theorem padP_len (text : List (BitVec 8)) (e : BitVec 8) (k : Nat) : (padP text e k).length = text.length + 1 + k := by simp [padP]; omega
def padX (text : List (BitVec 8)) (e : BitVec 8) (k : Nat) : List (BitVec 8) := (padP text e k).set (text.length + k) ((padP text e k).getD (text.length + k) 0 ^^^ 128)
theorem padX_len (text : List (BitVec 8)) (e : BitVec 8) (k : Nat) : (padX text e k).length = text.length + 1 + k := by simp [padX, padP_len]
theorem padX_zero (text : List (BitVec 8)) (e : BitVec 8) : padX text e 0 = text ++ [e ^^^ 128] := by
  simp [padX, padP, List.getD_eq_getElem?_getD]
theorem padX_succ (text : List (BitVec 8)) (e : BitVec 8) (k : Nat) : padX text e (k + 1) = text ++ (e :: (List.replicate k 0 ++ [128])) := by
  have h : padP text e (k + 1) = (text ++ e :: List.replicate k 0) ++ [0] := by
    simp [padP, List.replicate_succ']
  have hl : (text ++ e :: List.replicate k (0 : BitVec 8)).length = text.length + (k + 1) := by simp
  rw [padX, h, ← hl, List.set_append_right _ _ (Nat.le_refl _)]
  simp [List.getD_eq_getElem?_getD]

/-- a padded text, absorbed -/
theorem pad_law {r : Nat} (text : List (BitVec 8)) (e : BitVec 8) (k : Nat) (hr : 0 < r) (hk : k < r) (hm : (text.length + 1 + k) % r = 0) : absorb r (z0, 0) (padX text e k) = (takes0 r e text, 0) := by
  have hp := absorb_pos (r := r) text z0 0 hr
  rw [Nat.zero_add] at hp
  have hlt : (absorb r (z0, 0) text).2 < r := by rw [hp]; exact Nat.mod_lt _ hr
  have hsum : (absorb r (z0, 0) text).2 + 1 + k = r := by
    rw [hp]
    have h1 := Nat.div_add_mod text.length r
    have h2 : (text.length % r + 1 + k) % r = 0 := by
      rw [← h1, show r * (text.length / r) + text.length % r + 1 + k = (text.length % r + 1 + k) + r * (text.length / r) by omega, Nat.add_mul_mod_self_left] at hm
      exact hm
    have h3 := Nat.mod_lt text.length hr
    obtain ⟨q, hq⟩ := Nat.dvd_of_mod_eq_zero h2
    have : q = 1 := by
      rcases Nat.lt_or_ge q 2 with h | h
      · rcases (by omega : q = 0 ∨ q = 1) with rfl | rfl
        · omega
        · rfl
      · have := Nat.mul_le_mul (Nat.le_refl r) h
        omega
    subst this; omega
  rw [takes0, takesS]
  rcases hst : absorb r (z0, 0) text with ⟨s1, a1⟩
  rw [hst] at hsum hlt
  simp only at hsum hlt ⊢
  cases k with
  | zero =>
    rw [padX_zero, absorb_app, hst, absorb_eq _ _ _ (by simp) (by simp; omega)]
    simp only [puts]
    rw [show r - 1 = a1 by omega, putS_xor]
  | succ k =>
    rw [padX_succ, absorb_app, hst, absorb_eq _ _ _ (by simp) (by simp; omega)]
    simp only [puts]
    rw [puts_app, puts_zero]
    simp only [puts, List.length_replicate]
    rw [show a1 + 1 + k = r - 1 by omega]

/-- block after block -/
def putsAt (s : La) (P : List (BitVec 8)) (at' : Nat) : Nat → La
  | 0 => s
  | i + 1 => putS (putsAt s P at' i) i (P.getD (at' + i) 0)
theorem putsAt_len (s : La) (P : List (BitVec 8)) (at' : Nat) : ∀ i, (putsAt s P at' i).length = s.length
  | 0 => rfl
  | i + 1 => by rw [putsAt, putS_len, putsAt_len s P at' i]
theorem putsAt_eq (s : La) (P : List (BitVec 8)) (at' : Nat) : ∀ i, at' + i ≤ P.length → putsAt s P at' i = puts s 0 ((P.drop at').take i)
  | 0, _ => by simp [putsAt, puts]
  | i + 1, h => by
    rw [putsAt, putsAt_eq s P at' i (by omega), List.take_succ_eq_append_getElem (by simp; omega), puts_app]
    simp only [puts, List.length_take, List.length_drop, List.getElem_drop, Nat.zero_add]
    rw [show min i (P.length - at') = i by omega]
    simp [List.getD_eq_getElem?_getD, show at' + i < P.length by omega]
def absR (P : List (BitVec 8)) (r : Nat) : Nat → La
  | 0 => z0
  | q + 1 => perm (putsAt (absR P r q) P (q * r) r)
theorem absR_len (P : List (BitVec 8)) (r : Nat) : ∀ q, (absR P r q).length = 25
  | 0 => rfl
  | q + 1 => perm_len (by rw [putsAt_len]; exact absR_len P r q)
theorem absR_eq (P : List (BitVec 8)) {r : Nat} (hr : 0 < r) : ∀ q, q * r ≤ P.length → absorb r (z0, 0) (P.take (q * r)) = (absR P r q, 0)
  | 0, _ => by simp [absR, absorb]
  | q + 1, h => by
    have h1 : q * r + r ≤ P.length := by rw [Nat.succ_mul] at h; exact h
    rw [Nat.succ_mul, List.take_add, absorb_app, absR_eq P hr q (by omega)]
    rw [absorb_eq _ _ _ (by intro e; have := congrArg List.length e; simp at this; omega) (by simp; omega), absR, putsAt_eq _ _ _ _ h1]

/-- block after block of output -/
theorem gS_blk {r : Nat} {st : La × Nat} {A : La} (hp : prep r st = (A, 0)) : ∀ i, i + 1 ≤ r → gS r st (i + 1) = (A, i + 1) ∧ gBy r st i = byteG (A, i)
  | 0, _ => ⟨by show ((prep r st).1, (prep r st).2 + 1) = _; rw [hp], by show byteG (prep r st) = _; rw [hp]⟩
  | i + 1, h => by
    have ih := (gS_blk hp i (by omega)).1
    have e : prep r (gS r st (i + 1)) = (A, i + 1) := by rw [ih, prep, if_neg (show ¬ i + 1 = r by omega)]
    exact ⟨by show ((prep r (gS r st (i + 1))).1, (prep r (gS r st (i + 1))).2 + 1) = _; rw [e], by show byteG (prep r (gS r st (i + 1))) = _; rw [e]⟩
def bytesL (A : La) (n : Nat) : List (BitVec 8) := (List.range n).map fun i => byteG (A, i)
theorem gO_blk {r : Nat} {st : La × Nat} {A : La} (hp : prep r st = (A, 0)) {t : Nat} (ht : t ≤ r) : gO r st t = bytesL A t := by
  apply List.map_congr_left
  intro i hi
  exact (gS_blk hp i (by have := List.mem_range.1 hi; omega)).2
/-- behind whole blocks: ready for the next one -/
theorem gS_full {r : Nat} (hr : 0 < r) (S : La) : ∀ q, prep r (gS r (S, 0) (q * r)) = (if q = 0 then S else perm (gS r (S, 0) (q * r)).1, 0)
  | 0 => by
    simp only [Nat.zero_mul, gS, prep]
    rw [if_neg (show ¬ 0 = r by omega)]; rfl
  | q + 1 => by
    have ih := gS_full hr S q
    obtain ⟨r, rfl⟩ := Nat.exists_eq_succ_of_ne_zero (by omega : r ≠ 0)
    have h := (gS_blk ih r (Nat.le_refl _)).1
    rw [Nat.succ_mul, ← gS_add]
    rw [h, prep, if_pos rfl]
    rfl
end Go.Lv
