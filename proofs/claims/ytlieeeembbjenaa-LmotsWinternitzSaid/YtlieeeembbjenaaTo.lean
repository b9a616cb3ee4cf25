/- A part of the proof. -/
import Derived.Test.YtlieeeembbjenaaTl
set_option linter.all false
namespace Go.Lv
open Go Go.Proofs
set_option linter.unusedSimpArgs false
set_option maxRecDepth 100000

/-! ## The plain law: of two hashes each has a digit less than that of the other -/

/-- the number whose digits these are -/
def val (m : Nat) (l : List Int) : Int := l.foldl (fun a d => a * m + d) 0
theorem val_app (m : Nat) (l : List Int) (d : Int) : val m (l ++ [d]) = val m l * m + d := by simp [val]
theorem val_mono (m : Nat) : ∀ (n : Nat) (k l : List Int), k.length = n → l.length = n → (∀ i, i < n → l.getD i 0 ≤ k.getD i 0) → val m l ≤ val m k
  | 0, k, l, hk, hl, _ => by rw [List.eq_nil_of_length_eq_zero hk, List.eq_nil_of_length_eq_zero hl]; exact Int.le_refl _
  | n + 1, k, l, hk, hl, h => by
    have hk1 : k ≠ [] := by intro e; rw [e] at hk; simp at hk
    have hl1 : l ≠ [] := by intro e; rw [e] at hl; simp at hl
    rw [← List.dropLast_concat_getLast hk1, ← List.dropLast_concat_getLast hl1, val_app, val_app]
    have ih := val_mono m n k.dropLast l.dropLast (by simp [hk]) (by simp [hl]) fun i hi => by
      have := h i (by omega)
      simp only [List.getD_eq_getElem?_getD] at this ⊢
      rw [List.getElem?_dropLast, List.getElem?_dropLast, if_pos (by omega), if_pos (by omega)]
      exact this
    have h2 := h n (by omega)
    have e1 : k.getLast hk1 = k.getD n 0 := by rw [List.getLast_eq_getElem]; simp [List.getD_eq_getElem?_getD, hk]
    have e2 : l.getLast hl1 = l.getD n 0 := by rw [List.getLast_eq_getElem]; simp [List.getD_eq_getElem?_getD, hl]
    rw [e1, e2]
    have := Int.mul_le_mul_of_nonneg_right ih (show (0 : Int) ≤ m by omega)
    omega

theorem sumS_mono (w : Nat) : ∀ (k l : List Int), k.length = l.length → (∀ i, i < l.length → l.getD i 0 ≤ k.getD i 0) → sumS w k ≤ sumS w l ∧ (sumS w k = sumS w l → k = l)
  | [], [], _, _ => ⟨Int.le_refl _, fun _ => rfl⟩
  | x :: k, y :: l, hn, h => by
    have h0 := h 0 (by simp)
    simp only [List.getD_eq_getElem?_getD, List.getElem?_cons_zero, Option.getD_some] at h0
    obtain ⟨h1, h2⟩ := sumS_mono w k l (by simpa using hn) fun i hi => by
      have := h (i + 1) (by simp; omega)
      simpa [List.getD_eq_getElem?_getD] using this
    simp only [sumS, List.map_cons, List.sum_cons] at h1 h2 ⊢
    refine ⟨by omega, fun e => ?_⟩
    rw [show x = y by omega, h2 (by omega)]

theorem digs_inj {w : Int} (hw : wOK w) {x y : BitVec 8} (h : digs w.toNat x (8 / w.toNat) = digs w.toNat y (8 / w.toNat)) : x = y := by
  have hv : ∀ w : Fin 9, w.val = 1 ∨ w.val = 2 ∨ w.val = 4 ∨ w.val = 8 → ∀ x : Fin 256, val (2 ^ w.val) (digs w.val (BitVec.ofFin (w := 8) x) (8 / w.val)) = x.val := by decide +kernel
  have hw2 : w.toNat = 1 ∨ w.toNat = 2 ∨ w.toNat = 4 ∨ w.toNat = 8 := by unfold wOK at hw; omega
  have h1 := hv ⟨w.toNat, by omega⟩ hw2 x.toFin
  have h2 := hv ⟨w.toNat, by omega⟩ hw2 y.toFin
  simp only [BitVec.ofFin_toFin] at h1 h2
  rw [h] at h1
  have : (x.toFin.val : Int) = y.toFin.val := h1.symm.trans h2
  exact BitVec.eq_of_toFin_eq (Fin.ext (by exact_mod_cast this))
theorem cutAll_inj {w : Int} (hw : wOK w) : ∀ {a b : List (BitVec 8)}, a.length = b.length → cutAll w.toNat a = cutAll w.toNat b → a = b
  | [], [], _, _ => rfl
  | x :: a, y :: b, hl, h => by
    simp only [cutAll, List.flatMap_cons] at h
    obtain ⟨h1, h2⟩ := List.append_inj h (by simp [digs])
    rw [digs_inj hw h1, cutAll_inj hw (by simpa using hl) h2]

theorem dig_mod (w : Nat) (x : BitVec 8) (k : Nat) : dig w x k = ((x.toNat / 2 ^ (8 - w * (k + 1)) % 2 ^ w : Nat) : Int) := by
  rw [dig, Nat.and_two_pow_sub_one_eq_mod]

theorem chk_bytes (x : Nat) (hx : x < 65536) : bigL (BitVec.ofInt 64 (x : Int)) 2 = [BitVec.ofNat 8 (x / 256), BitVec.ofNat 8 x] := by
  simp only [bigL, List.range_succ, List.range_zero, List.nil_append, List.cons_append, List.map_cons, List.map_nil]
  have hh : ∀ i, i < 2 → byteAt (BitVec.ofInt 64 (x : Int)) i = BitVec.ofNat 8 (x / 256 ^ i) := by
    intro i hi
    apply BitVec.eq_of_toNat_eq
    simp only [byteAt, BitVec.toNat_setWidth, BitVec.toNat_ushiftRight, Nat.shiftRight_eq_div_pow, BitVec.toNat_ofInt, BitVec.toNat_ofNat]
    rcases (by omega : i = 0 ∨ i = 1) with rfl | rfl <;> omega
  rw [hh _ (by omega), hh _ (by omega)]
  simp
def ChkV (w ls n : Nat) : Prop := ∀ s : Nat, (s : Int) * 2 ^ ls < 65536 → val (2 ^ w) ((cutAll w (bigL (BitVec.ofInt 64 ((s : Int) * 2 ^ ls)) 2)).take n) = s
theorem chk_1_7 : ChkV 1 7 9 := by
  intro s h
  have e : ((s : Int) * 2 ^ 7) = ((s * 2 ^ 7 : Nat) : Int) := by simp
  rw [e] at h ⊢
  rw [chk_bytes _ (by omega)]
  simp [cutAll, digs, List.range_succ, dig_mod, val]
  omega
theorem chk_2_6 : ChkV 2 6 5 := by
  intro s h
  have e : ((s : Int) * 2 ^ 6) = ((s * 2 ^ 6 : Nat) : Int) := by simp
  rw [e] at h ⊢
  rw [chk_bytes _ (by omega)]
  simp [cutAll, digs, List.range_succ, dig_mod, val]
  omega
theorem chk_4_4 : ChkV 4 4 3 := by
  intro s h
  have e : ((s : Int) * 2 ^ 4) = ((s * 2 ^ 4 : Nat) : Int) := by simp
  rw [e] at h ⊢
  rw [chk_bytes _ (by omega)]
  simp [cutAll, digs, List.range_succ, dig_mod, val]
  omega
theorem chk_8_0 : ChkV 8 0 2 := by
  intro s h
  have e : ((s : Int) * 2 ^ 0) = ((s * 2 ^ 0 : Nat) : Int) := by simp
  rw [e] at h ⊢
  rw [chk_bytes _ (by omega)]
  simp [cutAll, digs, List.range_succ, dig_mod, val]
  omega
theorem chk_1_8 : ChkV 1 8 8 := by
  intro s h
  have e : ((s : Int) * 2 ^ 8) = ((s * 2 ^ 8 : Nat) : Int) := by simp
  rw [e] at h ⊢
  rw [chk_bytes _ (by omega)]
  simp [cutAll, digs, List.range_succ, dig_mod, val]
  omega

/-- the checksum's digits tell it -/
theorem chk_val {c : BitVec 32} {o : Ots} (h : otsT c = some o) : ChkV o.w.toNat o.ls.toNat (o.p - 8 * o.n / o.w).toNat := by
  unfold otsT at h
  split at h <;> first | (cases h; done) | skip
  · cases h; exact chk_1_7
  · cases h; exact chk_2_6
  · cases h; exact chk_4_4
  · cases h; exact chk_8_0
  · cases h; exact chk_1_8
  · cases h; exact chk_2_6
  · cases h; exact chk_4_4
  · cases h; exact chk_8_0
  · cases h; exact chk_1_7
  · cases h; exact chk_2_6
  · cases h; exact chk_4_4
  · cases h; exact chk_8_0
  · cases h; exact chk_1_8
  · cases h; exact chk_2_6
  · cases h; exact chk_4_4
  · cases h; exact chk_8_0

theorem otsT_chk {c : BitVec 32} {o : Ots} (h : otsT c = some o) : (8 * o.n / o.w) * (2 ^ o.w.toNat - 1) * 2 ^ o.ls.toNat < 65536 := by
  unfold otsT at h
  split at h <;> first
    | (cases h; decide)
    | cases h
theorem getD_app_l {k l : List Int} {i : Nat} (h : i < k.length) : (k ++ l).getD i 0 = k.getD i 0 := by simp [List.getD_eq_getElem?_getD, List.getElem?_append, h]
theorem getD_app_r {k l : List Int} {i n : Nat} (h : n = k.length) : (k ++ l).getD (n + i) 0 = l.getD i 0 := by
  subst h
  rw [List.getD_eq_getElem?_getD, List.getElem?_append_right (by omega), List.getD_eq_getElem?_getD]
  congr 2; omega
theorem getD_take {l : List Int} {i n : Nat} (h : i < n) : (l.take n).getD i 0 = l.getD i 0 := by simp [List.getD_eq_getElem?_getD, List.getElem?_take, h]

theorem wint {o : Ots} (ht : otsT o.code = some o) {a b : List (BitVec 8)} (ha : (a.length : Int) = o.n) (hb : (b.length : Int) = o.n) (h : ∀ i, i < o.p.toNat → (digS o b).getD i 0 ≤ (digS o a).getD i 0) : a = b := by
  have ho := otsT_ok ht
  have hw := ho.w
  have hw1 : 0 < o.w ∧ o.w ≤ 8 := by rcases hw with h | h | h | h <;> omega
  have hlab : a.length = b.length := by omega
  have hla := pcAll_len o.w.toNat a
  have hlb := pcAll_len o.w.toNat b
  rw [pcAll_eq hw] at hla hlb
  have hu : ((cutAll o.w.toNat a).length : Int) = 8 * o.n / o.w := by
    rw [hla]
    rcases hw with h | h | h | h <;> rw [h] <;> simp only [Int.toNat_one, Int.reduceToNat, Nat.reduceDiv] <;> omega
  have hle := ho.u
  have hp := ho.p
  have hu2 := ho.u2
  have hlen : (cutAll o.w.toNat a).length = (cutAll o.w.toNat b).length := by rw [hla, hlb, hlab]
  have hC : ∀ c, (cutAll o.w.toNat (bigL (BitVec.ofInt 64 c) 2)).length = 2 * (8 / o.w.toNat) := fun c => by rw [← pcAll_eq hw, pcAll_len, bigL_len]
  rw [← dig_law o a ho ha, ← dig_law o b ho hb] at h
  simp only [rdigS, rdigC, pcAll_eq hw] at h
  have h16 : 16 / o.w = ((2 * (8 / o.w.toNat) : Nat) : Int) := by
    rcases hw with h | h | h | h <;> rw [h] <;> rfl
  have hk := otsT_chk ht
  rw [← hu] at hk
  generalize hA : cutAll o.w.toNat a = A at *
  generalize hB : cutAll o.w.toNat b = B at *
  have hsA := sumS_range o.w.toNat A fun d hd => pcAll_rg hw (b := a) d (by rw [pcAll_eq hw, hA]; exact hd)
  have hsB := sumS_range o.w.toNat B fun d hd => pcAll_rg hw (b := b) d (by rw [pcAll_eq hw, hB]; exact hd)
  rw [← hlen] at hsB
  have hls : 0 < (2 : Int) ^ o.ls.toNat := (ls_pow ho.ls).1
  have bA : sumS o.w.toNat A * 2 ^ o.ls.toNat < 65536 := Int.lt_of_le_of_lt (Int.mul_le_mul_of_nonneg_right hsA.2 (by omega)) hk
  have bB : sumS o.w.toNat B * 2 ^ o.ls.toNat < 65536 := Int.lt_of_le_of_lt (Int.mul_le_mul_of_nonneg_right hsB.2 (by omega)) hk
  have cA := chk_val ht (sumS o.w.toNat A).toNat (by rw [Int.toNat_of_nonneg hsA.1]; exact bA)
  have cB := chk_val ht (sumS o.w.toNat B).toNat (by rw [Int.toNat_of_nonneg hsB.1]; exact bB)
  rw [Int.toNat_of_nonneg hsA.1] at cA
  rw [Int.toNat_of_nonneg hsB.1] at cB
  have hm := sumS_mono o.w.toNat A B hlen fun i hi => by
    have := h i (by omega)
    rwa [getD_take (by omega), getD_take (by omega), getD_app_l hi, getD_app_l (by omega)] at this
  have hv := val_mono (2 ^ o.w.toNat) (o.p - 8 * o.n / o.w).toNat ((cutAll o.w.toNat (bigL (BitVec.ofInt 64 (sumS o.w.toNat A * 2 ^ o.ls.toNat)) 2)).take (o.p - 8 * o.n / o.w).toNat) ((cutAll o.w.toNat (bigL (BitVec.ofInt 64 (sumS o.w.toNat B * 2 ^ o.ls.toNat)) 2)).take (o.p - 8 * o.n / o.w).toNat)
    (by rw [List.length_take, hC]; omega) (by rw [List.length_take, hC]; omega) fun i hi => by
    have := h (A.length + i) (by omega)
    rw [getD_take (by omega), getD_take (by omega), getD_app_r hlen, getD_app_r rfl] at this
    rwa [getD_take hi, getD_take hi]
  rw [cA, cB] at hv
  have e := hm.2 (by omega)
  exact cutAll_inj hw hlab (by rw [hA, hB, e])
end Go.Lv
