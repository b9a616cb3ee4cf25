/- A part of the proof (GT). -/
import Derived.Test.YtijhplgdhjkdpaaGreatDoorFD
import Derived.Test.YtijhplgdhjkdpaaGreatDoorGK
set_option linter.all false
namespace Go.Lv
open Go Go.Proofs
set_option linter.unusedSimpArgs false
set_option maxRecDepth 100000

theorem mo : Tryz.prog.follows .mixedOrders = true := by kernel_rfl

theorem pow_le61 {w : Int} (h : w ≤ 61) : 0 < (2 : Int) ^ w.toNat ∧ (2 : Int) ^ w.toNat ≤ 2305843009213693952 := by
  have h1 : (2 : Nat) ^ w.toNat ≤ 2 ^ 61 := Nat.pow_le_pow_right (by omega) (by omega)
  have h2 : (2 : Int) ^ w.toNat = (((2 : Nat) ^ w.toNat : Nat) : Int) := by simp
  have h3 : 0 < (2 : Nat) ^ w.toNat := Nat.pow_pos (by omega)
  rw [h2]; omega

end Go.Lv

namespace Go.Lv
open Go Go.Proofs
set_option linter.unusedSimpArgs false
set_option maxRecDepth 100000

def bigC (n : BitVec 64) (k j : Nat) : List (BitVec 8) := (List.range k).map fun i => if k - 1 - i < j then byteAt n (k - 1 - i) else 0

theorem bigC_len (n : BitVec 64) (k j : Nat) : (bigC n k j).length = k := by simp [bigC]
theorem bigC_zero (n : BitVec 64) (k : Nat) : bigC n k 0 = List.replicate k 0 := by
  apply List.ext_getElem
  · simp [bigC]
  · intro i h1 h2; simp [bigC]
theorem bigC_all (n : BitVec 64) (k : Nat) : bigC n k k = bigL n k := by
  apply List.ext_getElem
  · simp [bigC, bigL]
  · intro i h1 h2
    have : i < k := by simpa [bigC] using h1
    simp [bigC, bigL]; omega
theorem bigC_set (n : BitVec 64) (k j : Nat) (h : j < k) : (bigC n k j).set (k - 1 - j) (byteAt n j) = bigC n k (j + 1) := by
  apply List.ext_getElem
  · simp [bigC]
  · intro i h1 h2
    have hi : i < k := by simpa [bigC] using h1
    rw [List.getElem_set]
    by_cases e : k - 1 - j = i
    · have : k - 1 - i = j := by omega
      simp [e, bigC, this]
    · rw [if_neg e]
      have : (k - 1 - i < j + 1) = (k - 1 - i < j) := by apply propext; omega
      simp [bigC, this]

def σbig (n : BitVec 64) (k j : Nat) : St := ⟨[(0, .u64 n), (1, .i k), (5, .sl 0 0 k 1), (10, .i k), (11, .i j)], [(0, ⟨(bigC n k j).map .u8, true⟩)], 1⟩

theorem big_fun (n : BitVec 64) (k : Nat) (hk : k ≤ 1000000) : Fun Tryz.prog Gs 89 [Enc.enc n, Enc.enc (k : Int)] (Enc.ret (bigL n k)) := by
  refine Fun_cc [] mo Tryz.func89 (by decide) cc89 rs89 Tryz.ntmps89 (by simp) ?_
  refine AW_run CtOK_nil 1000 ?_
  simp (maxSteps := 10000000) (disch := omega) only [go_sem, c89, reduceIte, seval, -BitVec.isValue, -BitVec.reduceOfNat, -List.reduceReplicate]
  refine AW_loop (σbig n k) (fun j => j ≤ k) (fun j => k - j) 0 (Nat.zero_le _) (Wk_p [] ?_) fun j hj => ?_
  · simp only [go_sem, σbig, bigC_zero, reduceIte, seval, -BitVec.isValue, -BitVec.reduceOfNat, -List.reduceReplicate]
    try simp
  · refine AW_run CtOK_nil 1000 ?_
    simp (maxSteps := 10000000) (disch := omega) only [go_sem, σbig, reduceIte, seval, -BitVec.isValue, -BitVec.reduceOfNat, -List.reduceReplicate]
    refine run_br (fun hb => ?_) (fun hb => ?_)
    · have hlt : j < k := by simpa using hb
      have hl := bigC_len n k j
      simp (maxSteps := 10000000) (disch := omega) only [go_sem, reduceIte, seval, -BitVec.isValue, -BitVec.reduceOfNat, -List.reduceReplicate]
      have e1 : ((k : Int) - 1 - j).toNat = k - 1 - j := by omega
      have e2 : (8 * (j : Int)).toNat = 8 * j := by omega
      refine ⟨j + 1, by omega, Wk_p [] ?_, by omega⟩
      simp only [go_sem, reduceIte, seval, -BitVec.isValue, -BitVec.reduceOfNat, -List.reduceReplicate]
      simp [e1, e2, ← bigC_set n k j hlt, byteAt]
    · have hge : j = k := by have : ¬ j < k := by simpa using hb
                             omega
      subst hge
      have hl := bigL_len n j
      simp (maxSteps := 10000000) (disch := omega) only [go_sem, bigC_all, reduceIte, seval, -BitVec.isValue, -BitVec.reduceOfNat, -List.reduceReplicate]
      trace_state
      simp [← List.map_take, List.take_of_length_le, hl]

end Go.Lv

namespace Go.Lv
open Go Go.Proofs
set_option linter.unusedSimpArgs false
set_option maxRecDepth 100000

def hashedS (k : Int) : Bool × Int := if k = 3 then (true, 24) else if k = 2 then (true, 32) else if k = 1 then (false, 24) else (false, 32)

theorem hashed_fun (k : Int) : Fun Tryz.prog Gs 104 [Enc.enc k] (.tup [.b (hashedS k).1, .i (hashedS k).2]) := by
  refine Fun_cc [] mo Tryz.func104 (by decide) cc104 rs104 Tryz.ntmps104 (by simp) ?_
  refine AW_run CtOK_nil 1000 ?_
  by_cases h3 : k = 3
  · subst h3; simp (maxSteps := 10000000) (disch := omega) only [go_sem, c104, reduceIte, seval, -BitVec.isValue, -BitVec.reduceOfNat, -List.reduceReplicate]; simp [hashedS]
  · by_cases h2 : k = 2
    · subst h2; simp (maxSteps := 10000000) (disch := omega) only [go_sem, c104, reduceIte, seval, -BitVec.isValue, -BitVec.reduceOfNat, -List.reduceReplicate]; simp [hashedS]
    · by_cases h1 : k = 1
      · subst h1; simp (maxSteps := 10000000) (disch := omega) only [go_sem, c104, reduceIte, seval, -BitVec.isValue, -BitVec.reduceOfNat, -List.reduceReplicate]; simp [hashedS]
      · simp (maxSteps := 10000000) (disch := omega) only [go_sem, c104, reduceIte, seval, -BitVec.isValue, -BitVec.reduceOfNat, -List.reduceReplicate]; simp [hashedS, h1, h2, h3]

/-- the rows that param.Ots leans on -/
def ctHashed : Nat × (List AV → R) := (104, A1 fun k : Int => (True, .tup [.b (hashedS k).1, .i (hashedS k).2]))
theorem ctHashed_ok {Ct : List (Nat × (List AV → R))} (h : CtOK Tryz.prog Gs Ct) : CtOK Tryz.prog Gs (ctHashed :: Ct) := CtOK_cons (Row1 fun k _ => hashed_fun k) h

/-- the sets of LM-OTS -/
def otsT (c : BitVec 32) : Option Ots := match c.toNat with
  | 1 => some ⟨1, false, 32, 1, 265, 7⟩
  | 2 => some ⟨2, false, 32, 2, 133, 6⟩
  | 3 => some ⟨3, false, 32, 4, 67, 4⟩
  | 4 => some ⟨4, false, 32, 8, 34, 0⟩
  | 5 => some ⟨5, false, 24, 1, 200, 8⟩
  | 6 => some ⟨6, false, 24, 2, 101, 6⟩
  | 7 => some ⟨7, false, 24, 4, 51, 4⟩
  | 8 => some ⟨8, false, 24, 8, 26, 0⟩
  | 9 => some ⟨9, true, 32, 1, 265, 7⟩
  | 10 => some ⟨10, true, 32, 2, 133, 6⟩
  | 11 => some ⟨11, true, 32, 4, 67, 4⟩
  | 12 => some ⟨12, true, 32, 8, 34, 0⟩
  | 13 => some ⟨13, true, 24, 1, 200, 8⟩
  | 14 => some ⟨14, true, 24, 2, 101, 6⟩
  | 15 => some ⟨15, true, 24, 4, 51, 4⟩
  | 16 => some ⟨16, true, 24, 8, 26, 0⟩
  | _ => none
def ots0 : Ots := ⟨0, false, 0, 0, 0, 0⟩
def otsR (c : BitVec 32) : AV := match otsT c with
  | some o => .tup [Enc.enc o, .i 0]
  | none => .tup [Enc.enc ots0, .i 60]

end Go.Lv

namespace Go.Lv
open Go Go.Proofs
set_option linter.unusedSimpArgs false
set_option maxRecDepth 100000

end Go.Lv

namespace Go.Lv
open Go Go.Proofs
set_option linter.unusedSimpArgs false
set_option maxRecDepth 100000

/-- may a set be? -/
def otsMay (o : Ots) : Int := if otsT o.code = some o then 0 else 60

end Go.Lv

namespace Go.Lv
open Go Go.Proofs
set_option linter.unusedSimpArgs false
set_option maxRecDepth 100000

/-- digit k of a byte, w bits each, the highest first -/
def dig (w : Nat) (x : BitVec 8) (k : Nat) : Int := ((x.toNat / 2 ^ (8 - w * (k + 1))) &&& (2 ^ w - 1) : Nat)
def digs (w : Nat) (x : BitVec 8) (k : Nat) : List Int := (List.range k).map (dig w x)
def cutAll (w : Nat) (b : List (BitVec 8)) : List Int := b.flatMap fun x => digs w x (8 / w)
def cutS (w : Nat) (b : List (BitVec 8)) (most : Int) : List Int := (cutAll w b).take most.toNat

def wOK (w : Int) : Prop := w = 1 ∨ w = 2 ∨ w = 4 ∨ w = 8

def σcut (o : Ots) (b : List (BitVec 8)) (most : Int) (i : Nat) : St :=
  ⟨[(1, .ros false b.length (b.map .u8)), (2, .i most), (3, .ptr 0 0), (7, .sl 1 0 (cutS o.w.toNat (b.take i) most).length 1), (8, .i (8 / o.w)), (14, .ros false b.length (b.map .u8)), (15, .i b.length), (16, .i i)],
   [(0, ⟨[.u32 o.code, .b o.shake, .i o.n, .i o.w, .i o.p, .i o.ls], true⟩), (1, ⟨(cutS o.w.toNat (b.take i) most).map .i, true⟩)], 2⟩

def cutM (w : Nat) (b : List (BitVec 8)) (most : Int) (i k : Nat) : List Int := (cutAll w (b.take i) ++ digs w (b.getD i 0) k).take most.toNat
def σcut2 (o : Ots) (b : List (BitVec 8)) (most : Int) (i k : Nat) : St :=
  ⟨[(1, .ros false b.length (b.map .u8)), (2, .i most), (3, .ptr 0 0), (7, .sl 1 0 (cutM o.w.toNat b most i k).length 1), (8, .i (8 / o.w)), (9, .i i), (14, .ros false b.length (b.map .u8)), (15, .i b.length), (16, .i i), (19, .i (8 / o.w)), (20, .i k)],
   [(0, ⟨[.u32 o.code, .b o.shake, .i o.n, .i o.w, .i o.p, .i o.ls], true⟩), (1, ⟨(cutM o.w.toNat b most i k).map .i, true⟩)], 2⟩

theorem cutM_zero (w : Nat) (b : List (BitVec 8)) (most : Int) (i : Nat) : cutM w b most i 0 = cutS w (b.take i) most := by simp [cutM, cutS, digs]
theorem cutM_all (w : Nat) (b : List (BitVec 8)) (most : Int) (i : Nat) (h : i < b.length) : cutM w b most i (8 / w) = cutS w (b.take (i + 1)) most := by
  rw [cutM, cutS, List.take_succ_eq_append_getElem h]
  simp only [cutAll, List.flatMap_append, List.flatMap_cons, List.flatMap_nil, List.append_nil]
  simp [List.getD_eq_getElem?_getD, h]
theorem cutM_more (w : Nat) (b : List (BitVec 8)) (most : Int) (i k : Nat) (h : (cutM w b most i k).length < most) : cutM w b most i (k + 1) = cutM w b most i k ++ [dig w (b.getD i 0) k] := by
  simp only [cutM, List.length_take] at h ⊢
  have hl : (cutAll w (b.take i) ++ digs w (b.getD i 0) k).length < most.toNat := by omega
  have e : digs w (b.getD i 0) (k + 1) = digs w (b.getD i 0) k ++ [dig w (b.getD i 0) k] := by simp [digs, List.range_succ]
  generalize hA : cutAll w (b.take i) ++ digs w (b.getD i 0) k = A at *
  have t1 : (A ++ [dig w (b.getD i 0) k]).take most.toNat = A ++ [dig w (b.getD i 0) k] := List.take_of_length_le (by simp; omega)
  have t2 : A.take most.toNat = A := List.take_of_length_le (by omega)
  rw [e, ← List.append_assoc, hA, t1, t2]
theorem cutM_same (w : Nat) (b : List (BitVec 8)) (most : Int) (i k : Nat) (h : ¬ (cutM w b most i k).length < most) : cutM w b most i (k + 1) = cutM w b most i k := by
  simp only [cutM, List.length_take] at h ⊢
  have e : digs w (b.getD i 0) (k + 1) = digs w (b.getD i 0) k ++ [dig w (b.getD i 0) k] := by simp [digs, List.range_succ]
  rw [e, ← List.append_assoc, List.take_append_of_le_length (by omega)]

theorem cutAll_len (w : Nat) : ∀ (b : List (BitVec 8)), (cutAll w b).length ≤ 8 * b.length
  | [] => by simp [cutAll]
  | x :: b => by
    have ih := cutAll_len w b
    have h := Nat.div_le_self 8 w
    simp only [cutAll, List.flatMap_cons, List.length_append, List.length_cons, digs, List.length_map, List.length_range] at ih ⊢
    omega
theorem cutM_len (w : Nat) (b : List (BitVec 8)) (most : Int) (i k : Nat) : (cutM w b most i k).length ≤ 8 * b.length + k := by
  have h := cutAll_len w (b.take i)
  simp only [cutM, List.length_take, List.length_append, digs, List.length_map, List.length_range] at h ⊢
  omega

theorem bits8 {w : Int} (hw : wOK w) : (8 / w = ((8 / w.toNat : Nat) : Int)) ∧ ∀ k : Nat, k < 8 / w.toNat → 0 ≤ w * ((k : Int) + 1) ∧ w * ((k : Int) + 1) ≤ 8 := by
  rcases hw with rfl | rfl | rfl | rfl
  · exact ⟨rfl, fun k hk => by have : k < 8 := hk; omega⟩
  · exact ⟨rfl, fun k hk => by have : k < 4 := hk; omega⟩
  · exact ⟨rfl, fun k hk => by have : k < 2 := hk; omega⟩
  · exact ⟨rfl, fun k hk => by have : k < 1 := hk; omega⟩

theorem dig_eq {w : Int} (hw : wOK w) (x : BitVec 8) (k : Nat) (hk : k < 8 / w.toNat) :
    (((((x.toNat : Int) / 2 ^ (8 - w * ((k : Int) + 1)).toNat).toNat &&& ((2 : Int) ^ w.toNat - 1).toNat : Nat)) : Int) = dig w.toNat x k := by
  have e : ∀ n : Nat, ((x.toNat : Int) / 2 ^ n).toNat = x.toNat / 2 ^ n := fun n => by
    have : ((x.toNat : Int) / 2 ^ n) = ((x.toNat / 2 ^ n : Nat) : Int) := by simp
    rw [this, Int.toNat_natCast]
  have e2 : ((2 : Int) ^ w.toNat - 1).toNat = 2 ^ w.toNat - 1 := by
    have : (2 : Int) ^ w.toNat = ((2 ^ w.toNat : Nat) : Int) := by simp
    rw [this]; have := Nat.pow_pos (n := w.toNat) (show 0 < 2 by omega); omega
  have e3 : (8 - w * ((k : Int) + 1)).toNat = 8 - w.toNat * (k + 1) := by
    have := (bits8 hw).2 k hk
    have hm : (w.toNat : Int) * ((k : Int) + 1) = w * ((k : Int) + 1) := by
      have : (w.toNat : Int) = w := by rcases hw with h | h | h | h <;> omega
      rw [this]
    have hn : ((w.toNat * (k + 1) : Nat) : Int) = w * ((k : Int) + 1) := by rw [← hm]; simp
    omega
  rw [e, e2, e3, dig]

end Go.Lv

namespace Go.Lv
open Go Go.Proofs
set_option linter.unusedSimpArgs false
set_option maxRecDepth 100000

structure OtsOK (o : Ots) : Prop where
  w : wOK o.w
  n : o.n = 24 ∨ o.n = 32
  p : 26 ≤ o.p ∧ o.p ≤ 265
  ls : 0 ≤ o.ls ∧ o.ls ≤ 8
  u : 8 * o.n / o.w ≤ o.p
  u2 : o.p ≤ 8 * o.n / o.w + 16 / o.w

theorem otsT_ok {c : BitVec 32} {o : Ots} (h : otsT c = some o) : OtsOK o := by
  unfold otsT at h
  split at h <;> first
    | (cases h; exact ⟨by unfold wOK; decide, by decide, by decide, by decide, by decide, by decide⟩)
    | cases h

def sumS (w : Nat) (l : List Int) : Int := (l.map fun d => (2 : Int) ^ w - 1 - d).sum
def digS (o : Ots) (sum : List (BitVec 8)) : List Int :=
  cutS o.w.toNat sum o.p ++ cutS o.w.toNat (bigL ((BitVec.ofInt 16 (sumS o.w.toNat (cutS o.w.toNat sum o.p) * 2 ^ o.ls.toNat)).setWidth 64) 2) (o.p - (cutS o.w.toNat sum o.p).length)

theorem and_le (a b : Nat) : a &&& b ≤ b := Nat.and_le_right
theorem cutS_range {w : Nat} {b : List (BitVec 8)} {m : Int} : ∀ d ∈ cutS w b m, 0 ≤ d ∧ d ≤ 2 ^ w - 1 := by
  intro d hd
  have h1 := List.mem_of_mem_take hd
  simp only [cutAll, List.mem_flatMap, digs, List.mem_map] at h1
  obtain ⟨x, _, k, _, rfl⟩ := h1
  have hp : (2 : Int) ^ w = ((2 ^ w : Nat) : Int) := by simp
  have h2 := Nat.pow_pos (n := w) (show 0 < 2 by omega)
  rw [hp]
  unfold dig
  have := @Nat.and_le_right (x.toNat / 2 ^ (8 - w * (k + 1))) (2 ^ w - 1)
  omega
theorem cutS_len {w : Nat} {b : List (BitVec 8)} {m : Int} (h : 0 ≤ m): ((cutS w b m).length : Int) ≤ m := by
  simp only [cutS, List.length_take]; omega
theorem sumS_range (w : Nat) : ∀ (l : List Int), (∀ d ∈ l, 0 ≤ d ∧ d ≤ 2 ^ w - 1) → 0 ≤ sumS w l ∧ sumS w l ≤ l.length * (2 ^ w - 1)
  | [], _ => by simp [sumS]
  | x :: l, h => by
    have h1 := sumS_range w l fun d hd => h d (List.mem_cons_of_mem _ hd)
    have h2 := h x (List.mem_cons_self ..)
    simp only [sumS, List.map_cons, List.sum_cons, List.length_cons] at h1 ⊢
    have : ((l.length + 1 : Nat) : Int) * (2 ^ w - 1) = l.length * (2 ^ w - 1) + (2 ^ w - 1) := by rw [Int.natCast_add, Int.add_mul]; simp
    omega
theorem sumS_take (w : Nat) (l : List Int) (k : Nat) (h : k < l.length) : sumS w (l.take (k + 1)) = sumS w (l.take k) + (2 ^ w - 1 - l.getD k 0) := by
  rw [List.take_succ_eq_append_getElem h]
  simp only [sumS, List.map_append, List.sum_append, List.map_cons, List.map_nil, List.sum_cons, List.sum_nil]
  simp [List.getD_eq_getElem?_getD, h]

def σdig (o : Ots) (sum : List (BitVec 8)) (l : List Int) (k : Nat) : St :=
  ⟨[(1, Enc.enc sum), (2, .ptr 0 0), (5, .sl 1 0 l.length 1), (6, .i (sumS o.w.toNat (l.take k))), (14, .sl 1 0 l.length 1), (15, .i l.length), (16, .i k)],
   [(0, ⟨[.u32 o.code, .b o.shake, .i o.n, .i o.w, .i o.p, .i o.ls], true⟩), (1, ⟨l.map .i, true⟩)], 2⟩

theorem w_pow {w : Int} (h : wOK w) : 0 ≤ (2 : Int) ^ w.toNat - 1 ∧ (2 : Int) ^ w.toNat - 1 ≤ 255 := by
  rcases h with rfl | rfl | rfl | rfl <;> decide
theorem ls_pow {l : Int} (h : 0 ≤ l ∧ l ≤ 8) : 0 < (2 : Int) ^ l.toNat ∧ (2 : Int) ^ l.toNat ≤ 256 := by
  have h2 : (2 : Int) ^ l.toNat = (((2 : Nat) ^ l.toNat : Nat) : Int) := by simp
  have h1 : (2 : Nat) ^ l.toNat ≤ 2 ^ 8 := Nat.pow_le_pow_right (by omega) (by omega)
  have h3 : 0 < (2 : Nat) ^ l.toNat := Nat.pow_pos (by omega)
  rw [h2]; omega

theorem sumS_bound {w : Int} (hw : wOK w) {l : List Int} (h : ∀ d ∈ l, 0 ≤ d ∧ d ≤ 2 ^ w.toNat - 1) {n : Nat} (hn : l.length ≤ n) : 0 ≤ sumS w.toNat l ∧ sumS w.toNat l ≤ n * 255 := by
  obtain ⟨h1, h2⟩ := sumS_range w.toNat l h
  have h3 : (l.length : Int) * (2 ^ w.toNat - 1) ≤ n * 255 := by
    have := w_pow hw
    exact Int.mul_le_mul (by omega) this.2 this.1 (by omega)
  omega
theorem mul_bound {s q : Int} (hs : 0 ≤ s ∧ s ≤ (265 : Nat) * 255) (hq : 0 < q ∧ q ≤ 256) : 0 ≤ s * q ∧ s * q ≤ 17299200 := by
  have h1 : s * q ≤ 67575 * 256 := Int.mul_le_mul (by omega) hq.2 (by omega) (by omega)
  have h2 := Int.mul_nonneg hs.1 (show 0 ≤ q by omega)
  omega

def DigR (o : Ots) (sum : List (BitVec 8)) : AV := if otsT o.code = some o then if (sum.length : Int) = o.n then .tup [Enc.ret (digS o sum), .i 0] else .tup [.ros true 0 [], .i 1] else .tup [.ros true 0 [], .i 60]

end Go.Lv

namespace Go.Lv
open Go Go.Proofs
set_option linter.unusedSimpArgs false
set_option maxRecDepth 100000

theorem rbytes_fun (k : Int) (h : 0 ≤ k) : Fun Tryz.prog Gs 78 [Enc.enc k] (.i (if k % 2 = 1 then 24 else 32)) := by
  refine Fun_cc [] mo Tryz.func78 (by decide) cc78 rs78 Tryz.ntmps78 (by simp) ?_
  refine AW_run CtOK_nil 1000 ?_
  by_cases h3 : k % 2 = 1
  · simp (maxSteps := 10000000) (disch := omega) only [go_sem, c78, Int.tmod_eq_emod_of_nonneg, reduceIte, seval, -BitVec.isValue, -BitVec.reduceOfNat, -List.reduceReplicate]
  · simp (maxSteps := 10000000) (disch := omega) only [go_sem, c78, Int.tmod_eq_emod_of_nonneg, reduceIte, seval, -BitVec.isValue, -BitVec.reduceOfNat, -List.reduceReplicate]; simp [h3]

def σpow (n : Int) (k : Nat) : St := ⟨[(3, .i (2 ^ k)), (4, .i n), (5, .i k)], [], 0⟩
def ctRbytes : Nat × (List AV → R) := (78, A1 fun n : Int => (0 ≤ n, .i (if n % 2 = 1 then 24 else 32)))
theorem ctRbytes_ok {Ct : List (Nat × (List AV → R))} (h : CtOK Tryz.prog Gs Ct) : CtOK Tryz.prog Gs (ctRbytes :: Ct) := CtOK_cons (Row1 fun o h => rbytes_fun o h) h

def bitsS (n : Nat) : Nat := if n = 0 then 0 else n.log2 + 1
theorem bitsS_eq {n b : Nat} (h1 : ∀ j < b, 2 ^ j ≤ n) (h2 : n < 2 ^ b) : b = bitsS n := by
  unfold bitsS
  split
  · rename_i h; subst h
    rcases Nat.eq_zero_or_pos b with h | h
    · exact h
    · have := h1 0 h; simp at this
  · rename_i h
    rcases Nat.eq_zero_or_pos b with h0 | h0
    · subst h0; simp at h2; omega
    · have h3 := h1 (b - 1) (by omega)
      rw [← Nat.le_log2 h] at h3
      rw [← Nat.log2_lt h] at h2
      omega
def σbits (n : Int) (k : Nat) : St := ⟨[(0, .i n), (3, .i k)], [], 0⟩
def rMay (o : Ots) (b : List (BitVec 8)) : Int := if otsT o.code = some o then if (b.length : Int) = o.n then 0 else 1 else 60
end Go.Lv

namespace Go.Lv
open Go Go.Proofs
set_option linter.unusedSimpArgs false
set_option maxRecDepth 100000

def σmost (n : Int) (k : Nat) : St := ⟨[(3, .i (2 ^ k)), (5, .i n), (6, .i k)], [], 1⟩
/-- bits of a byte, from behind -/
def pcs (M x : Nat) : Nat → List Int
  | 0 => []
  | k + 1 => ((x / M ^ k % M : Nat) : Int) :: pcs M x k
def pcAll (w : Nat) (b : List (BitVec 8)) : List Int := b.flatMap fun x => pcs (2 ^ w) x.toNat (8 / w)
theorem pcs_len (M x : Nat) : ∀ k, (pcs M x k).length = k
  | 0 => rfl
  | k + 1 => by simp [pcs, pcs_len M x k]
theorem pcAll_len (w : Nat) : ∀ b : List (BitVec 8), (pcAll w b).length = b.length * (8 / w)
  | [] => by simp [pcAll]
  | x :: b => by
    have := pcAll_len w b
    simp only [pcAll] at this
    simp only [pcAll, List.flatMap_cons, List.length_append, pcs_len, this, List.length_cons, Nat.add_mul]; omega
theorem pcAll_take (w : Nat) (b : List (BitVec 8)) (i : Nat) (h : i < b.length) : pcAll w (b.take (i + 1)) = pcAll w (b.take i) ++ pcs (2 ^ w) (b.getD i 0).toNat (8 / w) := by
  rw [List.take_succ_eq_append_getElem h]
  simp only [pcAll, List.flatMap_append, List.flatMap_cons, List.flatMap_nil, List.append_nil]
  simp [List.getD_eq_getElem?_getD, h]
theorem pcAll_le (w : Nat) (b : List (BitVec 8)) (i : Nat) : (pcAll w (b.take i)).length ≤ b.length * 8 := by
  rw [pcAll_len]
  exact Nat.mul_le_mul (by simp; omega) (Nat.div_le_self 8 w)

def σpo (w : Int) (b : List (BitVec 8)) (i : Nat) : St :=
  ⟨[(1, .i w), (5, .sl 0 0 (pcAll w.toNat (b.take i)).length 1), (12, Enc.enc b), (13, .i b.length), (14, .i i)], [(0, ⟨(pcAll w.toNat (b.take i)).map .i, true⟩)], 1⟩
def σpm (w : Int) (b : List (BitVec 8)) (i k : Nat) : St :=
  ⟨[(1, .i w), (5, .sl 0 0 (pcAll w.toNat (b.take i)).length 1), (8, .i ((b.getD i 0).toNat / (2 ^ w.toNat) ^ k : Nat)), (9, .sl 1 0 k 1), (12, Enc.enc b), (13, .i b.length), (14, .i i), (22, .i (8 / w.toNat : Nat)), (23, .i k)],
    [(0, ⟨(pcAll w.toNat (b.take i)).map .i, true⟩), (1, ⟨(pcs (2 ^ w.toNat) (b.getD i 0).toNat k).map .i, true⟩)], 2⟩
def σpi (w : Int) (b : List (BitVec 8)) (i k j : Nat) : St :=
  ⟨[(1, .i w), (5, .sl 0 0 (pcAll w.toNat (b.take i)).length 1), (8, .i ((b.getD i 0).toNat / (2 ^ w.toNat) ^ k : Nat)), (9, .sl 1 0 k 1), (10, .i (2 ^ j)), (12, Enc.enc b), (13, .i b.length), (14, .i i), (22, .i (8 / w.toNat : Nat)), (23, .i k), (25, .i w), (26, .i j)],
    [(0, ⟨(pcAll w.toNat (b.take i)).map .i, true⟩), (1, ⟨(pcs (2 ^ w.toNat) (b.getD i 0).toNat k).map .i, true⟩)], 2⟩

theorem bg1 (n : BitVec 64) (j : Nat) : ((n >>> (8 * j)) % 256#64).setWidth 8 = byteAt n j := by
  apply BitVec.eq_of_toNat_eq
  simp [byteAt, BitVec.toNat_umod, BitVec.toNat_ushiftRight]
theorem bg2 (n : BitVec 64) (j : Nat) : (n >>> (8 * j)) / 256#64 = n >>> (8 * (j + 1)) := by
  apply BitVec.eq_of_toNat_eq
  simp only [BitVec.toNat_udiv, BitVec.toNat_ushiftRight, Nat.shiftRight_eq_div_pow, Nat.mul_add, Nat.pow_add, Nat.div_div_eq_div_mul]
  rfl
def σrbig (n : BitVec 64) (k j : Nat) : St := ⟨[(0, .u64 (n >>> (8 * j))), (5, .sl 0 0 k 1), (6, .i ((k : Int) - 1 - j))], [(0, ⟨(bigC n k j).map .u8, true⟩)], 1⟩
theorem rBig_fun (n : BitVec 64) (k : Nat) (hk : k ≤ 1000000) : Fun Tryz.prog Gs 56 [Enc.enc n, Enc.enc (k : Int)] (Enc.ret (bigL n k)) := by
  refine Fun_cc [] mo Tryz.func56 (by decide) cc56 rs56 Tryz.ntmps56 (by simp) ?_
  refine AW_run CtOK_nil 1000 ?_
  simp (maxSteps := 10000000) (disch := omega) only [go_sem, c56, reduceIte, seval, -BitVec.isValue, -BitVec.reduceOfNat, -List.reduceReplicate]
  refine AW_loop (σrbig n k) (fun j => j ≤ k) (fun j => k - j) 0 (Nat.zero_le _) (Wk_p [] ?_) fun j hj => ?_
  · simp only [go_sem, σrbig, bigC_zero, reduceIte, seval, -BitVec.isValue, -BitVec.reduceOfNat, -List.reduceReplicate]
    try simp
  · refine AW_run CtOK_nil 1000 ?_
    simp (maxSteps := 10000000) (disch := omega) only [go_sem, σrbig, reduceIte, seval, -BitVec.isValue, -BitVec.reduceOfNat, -List.reduceReplicate]
    refine run_br (fun hb => ?_) (fun hb => ?_)
    · have hlt : j < k := by have := of_decide_eq_true hb; omega
      have hl := bigC_len n k j
      simp (maxSteps := 10000000) (disch := omega) only [go_sem, reduceIte, seval, -BitVec.isValue, -BitVec.reduceOfNat, -List.reduceReplicate]
      have e1 : ((k : Int) - 1 - j).toNat = k - 1 - j := by omega
      refine ⟨j + 1, by omega, Wk_p [] ?_, by omega⟩
      simp only [go_sem, reduceIte, seval, -BitVec.isValue, -BitVec.reduceOfNat, -List.reduceReplicate]
      simp [e1, ← bigC_set n k j hlt, ← bg1, ← bg2]
      try omega
    · have hge : j = k := by have := of_decide_eq_false hb; omega
      subst hge
      have hl := bigL_len n j
      simp (maxSteps := 10000000) (disch := omega) only [go_sem, bigC_all, reduceIte, seval, -BitVec.isValue, -BitVec.reduceOfNat, -List.reduceReplicate]
      simp [← List.map_take, List.take_of_length_le, hl]

def ctRBig : Nat × (List AV → R) := (56, A2 fun (n : BitVec 64) (k : Int) => (0 ≤ k ∧ k ≤ 1000000, Enc.ret (bigL n k.toNat)))
theorem ctRBig_ok {Ct : List (Nat × (List AV → R))} (h : CtOK Tryz.prog Gs Ct) : CtOK Tryz.prog Gs (ctRBig :: Ct) := CtOK_cons (Row2 fun n k h => by
  obtain ⟨k, rfl⟩ := Int.eq_ofNat_of_zero_le h.1
  exact rBig_fun n k (by have := h.2; omega)) h
end Go.Lv

namespace Go.Lv
open Go Go.Proofs
set_option linter.unusedSimpArgs false
set_option maxRecDepth 100000

def rdigC (o : Ots) (sum : List (BitVec 8)) : Int := sumS o.w.toNat (pcAll o.w.toNat sum) * 2 ^ o.ls.toNat
def rdigS (o : Ots) (sum : List (BitVec 8)) : List Int := (pcAll o.w.toNat sum ++ pcAll o.w.toNat (bigL (BitVec.ofInt 64 (rdigC o sum)) 2)).take o.p.toNat

theorem pcs_eq {w : Int} (hw : wOK w) (x : BitVec 8) : pcs (2 ^ w.toNat) x.toNat (8 / w.toNat) = digs w.toNat x (8 / w.toNat) := by
  have h : ∀ w : Fin 9, w.val = 1 ∨ w.val = 2 ∨ w.val = 4 ∨ w.val = 8 → ∀ x : Fin 256, pcs (2 ^ w.val) x.val (8 / w.val) = digs w.val (BitVec.ofFin (w := 8) x) (8 / w.val) := by decide +kernel
  have hw2 : w.toNat = 1 ∨ w.toNat = 2 ∨ w.toNat = 4 ∨ w.toNat = 8 := by unfold wOK at hw; omega
  have := h ⟨w.toNat, by omega⟩ hw2 x.toFin
  simpa using this
theorem pcAll_eq {w : Int} (hw : wOK w) (b : List (BitVec 8)) : pcAll w.toNat b = cutAll w.toNat b := by
  simp only [pcAll, cutAll, pcs_eq hw]

theorem pcAll_rg {w : Int} (hw : wOK w) {b : List (BitVec 8)} : ∀ d ∈ pcAll w.toNat b, 0 ≤ d ∧ d ≤ 2 ^ w.toNat - 1 := by
  rw [pcAll_eq hw]
  intro d hd
  refine cutS_range (w := w.toNat) (b := b) (m := ((cutAll w.toNat b).length : Int)) d ?_
  simp [cutS, hd]

def σrd (o : Ots) (l : List Int) (k : Nat) : St :=
  ⟨[(2, .ptr 0 0), (5, .sl 1 0 l.length 1), (6, .i (sumS o.w.toNat (l.take k))), (13, .sl 1 0 l.length 1), (14, .i l.length), (15, .i k)],
   [(0, ⟨[.u32 o.code, .b o.shake, .i o.n, .i o.w, .i o.p, .i o.ls], true⟩), (1, ⟨l.map .i, true⟩)], 2⟩
def σrd2 (o : Ots) (l : List Int) (k : Nat) : St :=
  ⟨[(2, .ptr 0 0), (5, .sl 1 0 l.length 1), (6, .i (sumS o.w.toNat l * 2 ^ k)), (27, .i o.ls), (28, .i k)],
   [(0, ⟨[.u32 o.code, .b o.shake, .i o.n, .i o.w, .i o.p, .i o.ls], true⟩), (1, ⟨l.map .i, true⟩)], 2⟩

theorem bigL2 (c : Int) : bigL ((BitVec.ofInt 16 c).setWidth 64) 2 = bigL (BitVec.ofInt 64 c) 2 := by
  have e : BitVec.ofInt 16 c = (BitVec.ofInt 64 c).setWidth 16 := by
    apply BitVec.eq_of_toNat_eq
    simp only [BitVec.toNat_ofInt, BitVec.toNat_setWidth]
    omega
  rw [e]
  generalize BitVec.ofInt 64 c = x
  have h : ∀ i, i < 2 → byteAt ((x.setWidth 16).setWidth 64) i = byteAt x i := by
    intro i hi
    apply BitVec.eq_of_toNat_eq
    simp only [byteAt, BitVec.toNat_setWidth, BitVec.toNat_ushiftRight, Nat.shiftRight_eq_div_pow]
    have := x.isLt
    rcases (by omega : i = 0 ∨ i = 1) with rfl | rfl <;> omega
  simp only [bigL, List.range_succ, List.range_zero, List.nil_append, List.cons_append, List.map_cons, List.map_nil]
  rw [h _ (by omega), h _ (by omega)]

/-- the two answers are one -/
theorem dig_law (o : Ots) (sum : List (BitVec 8)) (ho : OtsOK o) (hs : (sum.length : Int) = o.n) : rdigS o sum = digS o sum := by
  have hw := ho.w
  have hw1 : 0 < o.w ∧ o.w ≤ 8 := by rcases hw with h | h | h | h <;> omega
  have hlen := pcAll_len o.w.toNat sum
  rw [pcAll_eq hw] at hlen
  have hle : (cutAll o.w.toNat sum).length ≤ o.p.toNat := by
    rw [hlen]
    have hu := ho.u
    have h8 := (bits8 hw).1
    rcases hw with h | h | h | h <;> rw [h] at hu ⊢ <;> simp only [Int.toNat_one, Int.reduceToNat, Nat.reduceDiv] <;> omega
  have e1 : cutS o.w.toNat sum o.p = cutAll o.w.toNat sum := List.take_of_length_le hle
  rw [rdigS, digS, rdigC, pcAll_eq hw, pcAll_eq hw, e1, bigL2, List.take_append, List.take_of_length_le hle, cutS]
  congr 2
  omega

theorem digS_len (o : Ots) (sum : List (BitVec 8)) (ho : OtsOK o) (hs : (sum.length : Int) = o.n) : ((digS o sum).length : Int) = o.p := by
  rw [← dig_law o sum ho hs, rdigS, List.length_take, List.length_append, pcAll_len, pcAll_len, bigL_len]
  have hp := ho.p
  have hp2 := ho.u2
  rcases ho.w with h | h | h | h <;> rw [h] at hp2 ⊢ <;> simp only [Int.toNat_one, Int.reduceToNat, Nat.reduceDiv] <;> omega
/-- the law's examples -/
theorem live_ex : let l := digS ⟨2, false, 32, 2, 133, 6⟩ (List.replicate 32 0); l.length = 133 ∧ l.getD 127 0 = 0 ∧ l.getD 128 0 = 1 ∧ l.getD 129 0 = 2 ∧ l.getD 132 0 = 0 := by decide +kernel
def setS (c : BitVec 32) : Ots := match otsT c with
  | some o => o
  | none => ⟨c, false, 32, 4, 67, 4⟩
end Go.Lv

