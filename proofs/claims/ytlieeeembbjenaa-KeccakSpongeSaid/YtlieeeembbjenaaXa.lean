/- A part of the proof. -/
import Derived.Test.YtlieeeembbjenaaWa
import Derived.Test.YtlieeeembbjenaaFD
set_option linter.all false
namespace Go.Lv
open Go Go.Proofs
set_option linter.unusedSimpArgs false
set_option maxRecDepth 100000

/-! ## Or'ed in, where nothing is yet: the same as xor'ed -/
theorem or_xor (x y : BitVec 64) (k : Nat) (hx : x.toNat < 2 ^ k) (hy : ∀ t, t < k → y.getLsbD t = false) : x ||| y = x ^^^ y := by
  apply BitVec.eq_of_getLsbD_eq
  intro t ht
  rw [BitVec.getLsbD_or, BitVec.getLsbD_xor]
  rcases Nat.lt_or_ge t k with h | h
  · rw [hy t h]; simp
  · have : x.getLsbD t = false := Nat.testBit_lt_two_pow (Nat.lt_of_lt_of_le hx (Nat.pow_le_pow_right (by omega) h))
    rw [this]; simp
def orS (s : La) (a : Nat) (x : BitVec 8) : La := s.set (a / 8) (s.getD (a / 8) 0 ||| (x.setWidth 64 <<< (8 * (a % 8))))
def orF (L : List (BitVec 8)) : Nat → La
  | 0 => z0
  | i + 1 => orS (orF L i) i (L.getD i 0)
theorem orF_len (L : List (BitVec 8)) : ∀ i, (orF L i).length = 25
  | 0 => rfl
  | i + 1 => by simp [orF, orS, orF_len L i]
theorem shl_low (x : BitVec 8) (k t : Nat) (h : t < k) : (x.setWidth 64 <<< k).getLsbD t = false := by
  rw [BitVec.getLsbD_shiftLeft]; simp [h]
/-- what is filled in so far -/
theorem orF_low (L : List (BitVec 8)) : ∀ i, i ≤ 136 → ∀ j, i / 8 ≤ j → ((orF L i).getD j 0).toNat < 2 ^ (if j = i / 8 then 8 * (i % 8) else 0)
  | 0, _, j, hj => by
    have : z0.getD j 0 = 0 := by
      rw [z0, List.getD_eq_getElem?_getD, List.getElem?_replicate]; split <;> rfl
    rw [orF, this]; exact Nat.pow_pos (by omega)
  | i + 1, hi, j, hj => by
    have ih := orF_low L i (by omega)
    rw [orF, orS]
    have hlen := orF_len L i
    rcases Nat.lt_or_ge (i / 8) j with h | h
    · -- a lane behind this one
      have h1 := ih j (by omega)
      rw [if_neg (by omega)] at h1
      have e : ((orF L i).set (i / 8) ((orF L i).getD (i / 8) 0 ||| BitVec.setWidth 64 (L.getD i 0) <<< (8 * (i % 8)))).getD j 0 = (orF L i).getD j 0 := by
        simp only [List.getD_eq_getElem?_getD]
        rw [List.getElem?_set_ne (by omega)]
      rw [e]
      exact Nat.lt_of_lt_of_le h1 (Nat.pow_le_pow_right (by omega) (by omega))
    · have hji : j = i / 8 := by omega
      have hjs : j = (i + 1) / 8 := by omega
      subst hji
      rw [if_pos hjs]
      have h1 := ih (i / 8) (Nat.le_refl _)
      rw [if_pos rfl] at h1
      have e : ((orF L i).set (i / 8) ((orF L i).getD (i / 8) 0 ||| BitVec.setWidth 64 (L.getD i 0) <<< (8 * (i % 8)))).getD (i / 8) 0 = (orF L i).getD (i / 8) 0 ||| BitVec.setWidth 64 (L.getD i 0) <<< (8 * (i % 8)) := by
        simp only [List.getD_eq_getElem?_getD]
        rw [List.getElem?_set_self (by omega)]; rfl
      rw [e, show 8 * ((i + 1) % 8) = 8 * (i % 8) + 8 by omega, BitVec.toNat_or]
      refine Nat.or_lt_two_pow (Nat.lt_of_lt_of_le h1 (Nat.pow_le_pow_right (by omega) (by omega))) ?_
      rw [BitVec.toNat_shiftLeft, Nat.shiftLeft_eq]
      refine Nat.lt_of_le_of_lt (Nat.mod_le _ _) ?_
      rw [Nat.pow_add, Nat.mul_comm]
      have hb : (BitVec.setWidth 64 (L.getD i 0)).toNat < 2 ^ 8 := by
        rw [BitVec.toNat_setWidth]; have := (L.getD i 0).isLt; omega
      exact Nat.mul_lt_mul_of_pos_left hb (Nat.pow_pos (by omega))
theorem orF_puts (L : List (BitVec 8)) : ∀ i, i ≤ 136 → i ≤ L.length → orF L i = puts z0 0 (L.take i)
  | 0, _, _ => by simp [orF, puts]
  | i + 1, h, hl => by
    rw [orF, List.take_succ_eq_append_getElem (by omega), puts_app, ← orF_puts L i (by omega) (by omega)]
    simp only [puts, List.length_take, Nat.zero_add]
    rw [show min i L.length = i by omega]
    have hlow := orF_low L i (by omega) (i / 8) (Nat.le_refl _)
    rw [if_pos rfl] at hlow
    have eg : L.getD i 0 = L[i] := by simp [List.getD_eq_getElem?_getD, show i < L.length by omega]
    rw [orS, putS, or_xor _ _ _ hlow (fun t ht => shl_low _ _ _ ht), eg]
/-- a short text's one block -/
theorem one_block (text : List (BitVec 8)) (h : text.length < 136) (L : List (BitVec 8)) (hL : L = (text ++ [6] ++ List.replicate 136 0).set 135 ((text ++ [6] ++ List.replicate 136 0).getD 135 0 ^^^ 128)) : perm (orF L 136) = takes0 136 6 text := by
  have hlen : L.length = text.length + 137 := by rw [hL]; simp only [List.length_set, List.length_append, List.length_cons, List.length_nil, List.length_replicate]
  have hk : (text.length + 1 + (135 - text.length)) % 136 = 0 := by have : text.length + 1 + (135 - text.length) = 136 := by omega
                                                                    rw [this]
  have hp := pad_law (r := 136) text 6 (135 - text.length) (by omega) (by omega) hk
  have hP : padP text 6 (135 - text.length) = (text ++ [6] ++ List.replicate 136 0).take 136 := by
    rw [padP, List.take_append, List.take_of_length_le (by simp only [List.length_append, List.length_cons, List.length_nil]; omega), List.take_replicate]
    congr 2
    simp only [List.length_append, List.length_cons, List.length_nil]; omega
  have hX : padX text 6 (135 - text.length) = L.take 136 := by
    rw [padX, hP, hL, List.take_set, show text.length + (135 - text.length) = 135 by omega]
    congr 2
    simp only [List.getD_eq_getElem?_getD]
    rw [List.getElem?_take, if_pos (by omega)]
  rw [absorb_eq _ _ _ (by intro e; have := congrArg List.length e; rw [padX_len] at this; simp at this) (by rw [padX_len]; omega)] at hp
  have hp1 := congrArg Prod.fst hp
  simp only at hp1
  rw [orF_puts L 136 (by omega) (by omega), ← hX, hp1]
end Go.Lv
