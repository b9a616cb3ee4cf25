/- A part of the proof. -/
import Derived.Test.YtlieeeembbjenaaTc
set_option linter.all false
namespace Go.Lv
open Go Go.Proofs
set_option linter.unusedSimpArgs false
set_option maxRecDepth 100000

/-! ## Lists that a loop fills -/
def fillL {α : Type} (n : Nat) (f g : Nat → α) (i : Nat) : List α := (List.range n).map fun k => if k < i then f k else g k
theorem fillL_len {α : Type} (n : Nat) (f g : Nat → α) (i : Nat) : (fillL n f g i).length = n := by simp [fillL]
theorem fillL_set {α : Type} {n : Nat} {f g : Nat → α} {i : Nat} (h : i < n) : (fillL n f g i).set i (f i) = fillL n f g (i + 1) := by
  apply List.ext_getElem
  · simp [fillL]
  · intro k h1 h2
    have hk : k < n := by simpa [fillL] using h1
    rw [List.getElem_set]
    by_cases e : i = k
    · subst e; simp [fillL]
    · rw [if_neg e]
      have : (k < i + 1) = (k < i) := by apply propext; omega
      simp [fillL, this]
theorem fillL_zero {α : Type} (n : Nat) (f g : Nat → α) : fillL n f g 0 = (List.range n).map g := by simp [fillL]
theorem fillL_all {α : Type} (n : Nat) (f g : Nat → α) : fillL n f g n = (List.range n).map f := by
  apply List.map_congr_left; intro k hk; simp only [List.mem_range] at hk; rw [if_pos hk]
theorem fillL_get {n : Nat} {f g : Nat → BitVec 64} {i k : Nat} (h : k < n) : (fillL n f g i).getD k 0 = if k < i then f k else g k := by
  simp [fillL, List.getD_eq_getElem?_getD, h]
theorem mapr_get {n : Nat} {f : Nat → BitVec 64} {k : Nat} (h : k < n) : ((List.range n).map f).getD k 0 = f k := by
  simp [List.getD_eq_getElem?_getD, h]

/-! ## The permutation -/
def rl (x : BitVec 64) (s : Nat) : BitVec 64 := x <<< s ||| x >>> (64 - s)
def offs : List Int := [0, 1, 62, 28, 27, 36, 44, 6, 55, 20, 3, 10, 43, 25, 39, 41, 45, 15, 21, 8, 18, 2, 61, 56, 14]
def kcon : List (BitVec 64) := [0x0000000000000001, 0x0000000000008082, 0x800000000000808a, 0x8000000080008000, 0x000000000000808b, 0x0000000080000001, 0x8000000080008081, 0x8000000000008009, 0x000000000000008a, 0x0000000000000088, 0x0000000080008009, 0x000000008000000a, 0x000000008000808b, 0x800000000000008b, 0x8000000000008089, 0x8000000000008003, 0x8000000000008002, 0x8000000000000080, 0x000000000000800a, 0x800000008000000a, 0x8000000080008081, 0x8000000000008080, 0x0000000080000001, 0x8000000080008008]
abbrev La := List (BitVec 64)
def colC (A : La) (x : Nat) : BitVec 64 := A.getD x 0 ^^^ A.getD (x + 5) 0 ^^^ A.getD (x + 10) 0 ^^^ A.getD (x + 15) 0 ^^^ A.getD (x + 20) 0
def cL (A : La) : La := (List.range 5).map (colC A)
def thD (A : La) (x : Nat) : BitVec 64 := (cL A).getD ((x + 4) % 5) 0 ^^^ rl ((cL A).getD ((x + 1) % 5) 0) 1
def dL (A : La) : La := (List.range 5).map (thD A)
def dst (i : Nat) : Nat := 5 * ((2 * (i % 5) + 3 * (i / 5)) % 5) + i / 5
def inv (k : Nat) : Nat := [0, 6, 12, 18, 24, 3, 9, 10, 16, 22, 1, 7, 13, 19, 20, 4, 5, 11, 17, 23, 2, 8, 14, 15, 21].getD k 0
def tB (A : La) (T : List Int) (k : Nat) : BitVec 64 := rl (A.getD (inv k) 0 ^^^ (dL A).getD (inv k % 5) 0) (T.getD (inv k) 0).toNat
def bL (A : La) (T : List Int) : La := (List.range 25).map (tB A T)
def rowL (B : La) (i : Nat) : BitVec 64 := B.getD i 0 ^^^ (~~~ B.getD (i / 5 * 5 + (i + 1) % 5) 0 &&& B.getD (i / 5 * 5 + (i + 2) % 5) 0)
def mixS (A : La) (T : List Int) : La := (List.range 25).map (rowL (bL A T))

theorem dst_ok : ∀ i, i < 25 → dst i < 25 ∧ inv (dst i) = i ∧ ∀ k, k < 25 → inv k = i → k = dst i := by decide
def bF (A : La) (T : List Int) (i : Nat) : La := (List.range 25).map fun k => if inv k < i then tB A T k else 0
theorem bF_len (A : La) (T : List Int) (i : Nat) : (bF A T i).length = 25 := by simp [bF]
theorem bF_set {A : La} {T : List Int} {i : Nat} (h : i < 25) : (bF A T i).set (dst i) (rl (A.getD i 0 ^^^ (dL A).getD (i % 5) 0) (T.getD i 0).toNat) = bF A T (i + 1) := by
  obtain ⟨d1, d2, d3⟩ := dst_ok i h
  apply List.ext_getElem
  · simp [bF]
  · intro k h1 h2
    have hk : k < 25 := by simpa [bF] using h2
    rw [List.getElem_set]
    by_cases e : dst i = k
    · subst e; simp [bF, d2, tB]
    · rw [if_neg e]
      have hne : inv k ≠ i := fun h => e (d3 k hk h).symm
      have : (inv k < i + 1) = (inv k < i) := by apply propext; omega
      simp [bF, this]
theorem bF_all (A : La) (T : List Int) : bF A T 25 = bL A T := by
  apply List.map_congr_left; intro k hk
  have : ∀ k, k < 25 → inv k < 25 := by decide
  rw [if_pos (this k (by simpa using hk))]
theorem bF_zero (A : La) (T : List Int) : bF A T 0 = List.replicate 25 0 := by simp [bF]; rfl

/-- a pointer to an array, to be read -/
structure Pa (α : Type) where
  l : List α
instance {α : Type} [Enc α] : Enc (Pa α) where
  enc x := .rop false (x.l.map Enc.enc)
  ret x := .rop true (x.l.map Enc.ret)
  ok | .rop fr cs => fr = false ∧ okL α cs | _ => False
  dec | .rop _ cs => ⟨deL α cs⟩ | _ => ⟨[]⟩
  dflt := ⟨[]⟩
  d := Enc.d α + 1
  sound x h := by
    cases x <;> first | exact h.elim | skip
    obtain ⟨rfl, h⟩ := h
    simp only
    rw [← deL_sound h]
  fz H k x h := by
    obtain ⟨j, rfl⟩ := Nat.exists_eq_add_of_le' h
    obtain ⟨h1, h2, h3, h4⟩ := fz_map H (j + Enc.d α) (Nat.le_add_left _ _) x.l
    rw [← Nat.add_assoc]
    simp only [frz, h1, h2, h3, h4, Bool.and_false, Bool.and_true, and_self]
  ow x := by simp only [own]; exact ow_map x.l
  cl x := by simp only [cln, cl_map, Bool.and_true]
  rn m x := by simp only [ren, (rn_map m x.l).1, (rn_map m x.l).2, and_self]
  ik n x := by simp only [idk, (ik_map n x.l).1, (ik_map n x.l).2, and_self]
@[go_sem] theorem enc_p {α : Type} [Enc α] (l : Pa α) : Enc.enc l = .rop false (l.l.map Enc.enc) := rfl
@[go_sem] theorem ret_p {α : Type} [Enc α] (l : Pa α) : Enc.ret l = .rop true (l.l.map Enc.ret) := rfl
@[go_sem] theorem ok_p {α : Type} [Enc α] (cs : List AV) : Enc.ok (Pa α) (.rop false cs) = okL α cs := by show (false = false ∧ _) = _; simp
@[go_sem] theorem dec_p {α : Type} [Enc α] (fr : Bool) (cs : List AV) : (Enc.dec (.rop fr cs) : Pa α) = ⟨deL α cs⟩ := rfl

theorem offsets_fun : Fun Try.prog [] 62 [] (Enc.ret (⟨offs⟩ : Ar Int)) := by
  refine Fun_cc [] mo Try.func62 (by decide) cc62 rs62 Try.ntmps62 (by simp) ?_
  refine AW_run CtOK_nil 1000 ?_
  simp (disch := omega) only [go_sem, c62, offs, reduceIte, Nat.reduceAdd, Nat.reduceSub, Nat.reduceMul, Nat.reduceDiv, Nat.reduceMod, Nat.reducePow, Nat.reduceLT, Nat.reduceLeDiff, Nat.reduceBEq, Nat.reduceEqDiff, Nat.reduceAnd, Int.reduceLT, Int.reduceLE, Int.reduceEq, Int.reduceAdd, Int.reduceSub, Int.reduceMul, Int.reduceDiv, Int.reduceMod, Int.reducePow, Int.reduceToNat, Int.reduceNatCast, Int.reduceNeg, BitVec.reduceAdd, BitVec.reduceSub, BitVec.reduceMul, BitVec.reduceUDiv, BitVec.reduceUMod, BitVec.reduceDiv, BitVec.reduceMod, BitVec.reduceLT, BitVec.reduceLE, BitVec.reduceEq, BitVec.reduceToNat, BitVec.reduceToInt, BitVec.reduceOfInt, BitVec.reduceSetWidth, BitVec.reduceAnd, BitVec.reduceOr, BitVec.reduceXOr, BitVec.reduceNot, BitVec.reduceHShiftLeft, BitVec.reduceHShiftRight]
theorem constants_fun : Fun Try.prog [] 63 [] (Enc.ret (⟨kcon⟩ : Ar (BitVec 64))) := by
  refine Fun_cc [] mo Try.func63 (by decide) cc63 rs63 Try.ntmps63 (by simp) ?_
  refine AW_run CtOK_nil 1000 ?_
  simp (disch := omega) only [go_sem, c63, kcon, reduceIte, Nat.reduceAdd, Nat.reduceSub, Nat.reduceMul, Nat.reduceDiv, Nat.reduceMod, Nat.reducePow, Nat.reduceLT, Nat.reduceLeDiff, Nat.reduceBEq, Nat.reduceEqDiff, Nat.reduceAnd, Int.reduceLT, Int.reduceLE, Int.reduceEq, Int.reduceAdd, Int.reduceSub, Int.reduceMul, Int.reduceDiv, Int.reduceMod, Int.reducePow, Int.reduceToNat, Int.reduceNatCast, Int.reduceNeg, BitVec.reduceAdd, BitVec.reduceSub, BitVec.reduceMul, BitVec.reduceUDiv, BitVec.reduceUMod, BitVec.reduceDiv, BitVec.reduceMod, BitVec.reduceLT, BitVec.reduceLE, BitVec.reduceEq, BitVec.reduceToNat, BitVec.reduceToInt, BitVec.reduceOfInt, BitVec.reduceSetWidth, BitVec.reduceAnd, BitVec.reduceOr, BitVec.reduceXOr, BitVec.reduceNot, BitVec.reduceHShiftLeft, BitVec.reduceHShiftRight]
theorem rot_fun (x : BitVec 64) (k : Int) (h : 0 ≤ k ∧ k < 64) : Fun Try.prog [] 91 [Enc.enc x, Enc.enc k] (.u64 (rl x k.toNat)) := by
  refine Fun_cc [] mo Try.func91 (by decide) cc91 rs91 Try.ntmps91 (by simp) ?_
  refine AW_run CtOK_nil 1000 ?_
  obtain ⟨k, rfl⟩ := Int.eq_ofNat_of_zero_le h.1
  have hk : k < 64 := by omega
  have e1 : BitVec.ofInt 64 (k : Int) &&& (63 : BitVec 64) = BitVec.ofNat 64 k := by
    apply BitVec.eq_of_toNat_eq
    simp only [BitVec.toNat_and, BitVec.toNat_ofInt, BitVec.toNat_ofNat]
    rw [show ((k : Int) % ((2 ^ 64 : Nat) : Int)).toNat = k by omega, show (63 : BitVec 64).toNat = 2 ^ 6 - 1 by rfl, Nat.and_two_pow_sub_one_eq_mod]
    omega
  have e2 : (BitVec.ofNat 64 k).toNat = k := by rw [BitVec.toNat_ofNat]; omega
  have e3 : ((64 : BitVec 64) - BitVec.ofNat 64 k).toNat = 64 - k := by rw [BitVec.toNat_sub, e2]; simp; omega
  simp (disch := omega) only [go_sem, c91, e1, e2, e3, reduceIte, Nat.reduceAdd, Nat.reduceSub, Nat.reduceMul, Nat.reduceDiv, Nat.reduceMod, Nat.reducePow, Nat.reduceLT, Nat.reduceLeDiff, Nat.reduceBEq, Nat.reduceEqDiff, Nat.reduceAnd, Int.reduceLT, Int.reduceLE, Int.reduceEq, Int.reduceAdd, Int.reduceSub, Int.reduceMul, Int.reduceDiv, Int.reduceMod, Int.reducePow, Int.reduceToNat, Int.reduceNatCast, Int.reduceNeg, BitVec.reduceAdd, BitVec.reduceSub, BitVec.reduceMul, BitVec.reduceUDiv, BitVec.reduceUMod, BitVec.reduceDiv, BitVec.reduceMod, BitVec.reduceLT, BitVec.reduceLE, BitVec.reduceEq, BitVec.reduceToNat, BitVec.reduceToInt, BitVec.reduceOfInt, BitVec.reduceSetWidth, BitVec.reduceAnd, BitVec.reduceOr, BitVec.reduceXOr, BitVec.reduceNot, BitVec.reduceHShiftLeft, BitVec.reduceHShiftRight]
  simp only [e1, e2, e3, rl, Int.toNat_natCast]

def ctRot : Nat × (List AV → R) := (91, A2 fun (x : BitVec 64) (k : Int) => (0 ≤ k ∧ k < 64, .u64 (rl x k.toNat)))
theorem ctRot_ok {Ct : List (Nat × (List AV → R))} (h : CtOK Try.prog [] Ct) : CtOK Try.prog [] (ctRot :: Ct) := CtOK_cons (Row2 fun x k h => rot_fun x k h) h
def ctOffs : Nat × (List AV → R) := (62, A0 (True, Enc.ret (⟨offs⟩ : Ar Int)))
theorem ctOffs_ok {Ct : List (Nat × (List AV → R))} (h : CtOK Try.prog [] Ct) : CtOK Try.prog [] (ctOffs :: Ct) := CtOK_cons (Row0 fun _ => offsets_fun) h
def ctKcon : Nat × (List AV → R) := (63, A0 (True, Enc.ret (⟨kcon⟩ : Ar (BitVec 64))))
theorem ctKcon_ok {Ct : List (Nat × (List AV → R))} (h : CtOK Try.prog [] Ct) : CtOK Try.prog [] (ctKcon :: Ct) := CtOK_cons (Row0 fun _ => constants_fun) h
end Go.Lv
