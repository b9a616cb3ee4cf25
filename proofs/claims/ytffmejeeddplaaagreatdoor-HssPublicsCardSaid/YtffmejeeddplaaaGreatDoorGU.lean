/- A part of the proof (GU). -/
import Derived.Test.YtffmejeeddplaaaGreatDoorGT
import Derived.Test.YtffmejeeddplaaaGreatDoorFD
import Derived.Test.YtffmejeeddplaaaGreatDoorGK
set_option linter.all false
namespace Go.Lv
open Go Go.Proofs
set_option linter.unusedSimpArgs false
set_option maxRecDepth 100000
theorem baOf_inj (a b : List (BitVec 8)) : (baOf (a.map AV.u8) = baOf (b.map AV.u8)) = (a = b) := by
  apply propext
  constructor
  · intro h
    have h1 := congrArg (fun x : ByteArray => x.data.toList) h
    simp only [baOf, List.map_map] at h1
    exact (List.map_inj_right (f := u8of ∘ AV.u8) (fun x y hxy => by simpa [u8of, Function.comp] using congrArg UInt8.toBitVec hxy)).1 h1
  · rintro rfl; rfl
theorem Equal_fun (a b : List (BitVec 8)) : Fun Tryz.prog Gs 22 [Enc.enc a, Enc.enc b] (.b (decide (a = b))) := by
  refine Fun_cc [] mo Tryz.func22 (by decide) cc22 rs22 Tryz.ntmps22 (by simp) ?_
  refine AW_run CtOK_nil 1000 ?_
  simp (maxSteps := 10000000) (disch := omega) only [go_sem, c22, baOf_inj, reduceIte, seval, -BitVec.isValue, -BitVec.reduceOfNat, -List.reduceReplicate]
def ctEqual : Nat × (List AV → R) := (22, A2 fun a b : List (BitVec 8) => (True, .b (decide (a = b))))
theorem ctEqual_ok {Ct : List (Nat × (List AV → R))} (h : CtOK Tryz.prog Gs Ct) : CtOK Tryz.prog Gs (ctEqual :: Ct) := CtOK_cons (Row2 fun a b _ => Equal_fun a b) h
end Go.Lv
namespace Go.Lv
open Go Go.Proofs
set_option linter.unusedSimpArgs false
set_option maxRecDepth 100000
def fillL {α : Type} (n : Nat) (f g : Nat → α) (i : Nat) : List α := (List.range n).map fun k => if k < i then f k else g k
theorem fillL_len {α : Type} (n : Nat) (f g : Nat → α) (i : Nat) : (fillL n f g i).length = n := by simp [fillL]
theorem fillL_set {α : Type} {n : Nat} {f g : Nat → α} {i : Nat} (h : i < n) : (fillL n f g i).set i (f i) = fillL n f g (i + 1) := by
  apply List.ext_getElem
  · simp [fillL]
  · intro k h1 h2
    have hk : k < n := by simpa [fillL] using h1
    rw [List.getElem_set]
    by_cases e : i = k
    · subst e; simp [fillL]
    · rw [if_neg e]
      have : (k < i + 1) = (k < i) := by apply propext; omega
      simp [fillL, this]
theorem fillL_zero {α : Type} (n : Nat) (f g : Nat → α) : fillL n f g 0 = (List.range n).map g := by simp [fillL]
theorem fillL_all {α : Type} (n : Nat) (f g : Nat → α) : fillL n f g n = (List.range n).map f := by
  apply List.map_congr_left; intro k hk; simp only [List.mem_range] at hk; rw [if_pos hk]
theorem fillL_get {n : Nat} {f g : Nat → BitVec 64} {i k : Nat} (h : k < n) : (fillL n f g i).getD k 0 = if k < i then f k else g k := by
  simp [fillL, List.getD_eq_getElem?_getD, h]
theorem mapr_get {n : Nat} {f : Nat → BitVec 64} {k : Nat} (h : k < n) : ((List.range n).map f).getD k 0 = f k := by
  simp [List.getD_eq_getElem?_getD, h]
def rl (x : BitVec 64) (s : Nat) : BitVec 64 := x <<< s ||| x >>> (64 - s)
def offs : List Int := [0, 1, 62, 28, 27, 36, 44, 6, 55, 20, 3, 10, 43, 25, 39, 41, 45, 15, 21, 8, 18, 2, 61, 56, 14]
def kcon : List (BitVec 64) := [0x0000000000000001, 0x0000000000008082, 0x800000000000808a, 0x8000000080008000, 0x000000000000808b, 0x0000000080000001, 0x8000000080008081, 0x8000000000008009, 0x000000000000008a, 0x0000000000000088, 0x0000000080008009, 0x000000008000000a, 0x000000008000808b, 0x800000000000008b, 0x8000000000008089, 0x8000000000008003, 0x8000000000008002, 0x8000000000000080, 0x000000000000800a, 0x800000008000000a, 0x8000000080008081, 0x8000000000008080, 0x0000000080000001, 0x8000000080008008]
abbrev La := List (BitVec 64)
def colC (A : La) (x : Nat) : BitVec 64 := A.getD x 0 ^^^ A.getD (x + 5) 0 ^^^ A.getD (x + 10) 0 ^^^ A.getD (x + 15) 0 ^^^ A.getD (x + 20) 0
def cL (A : La) : La := (List.range 5).map (colC A)
def thD (A : La) (x : Nat) : BitVec 64 := (cL A).getD ((x + 4) % 5) 0 ^^^ rl ((cL A).getD ((x + 1) % 5) 0) 1
def dL (A : La) : La := (List.range 5).map (thD A)
def dst (i : Nat) : Nat := 5 * ((2 * (i % 5) + 3 * (i / 5)) % 5) + i / 5
def inv (k : Nat) : Nat := [0, 6, 12, 18, 24, 3, 9, 10, 16, 22, 1, 7, 13, 19, 20, 4, 5, 11, 17, 23, 2, 8, 14, 15, 21].getD k 0
def tB (A : La) (T : List Int) (k : Nat) : BitVec 64 := rl (A.getD (inv k) 0 ^^^ (dL A).getD (inv k % 5) 0) (T.getD (inv k) 0).toNat
def bL (A : La) (T : List Int) : La := (List.range 25).map (tB A T)
def rowL (B : La) (i : Nat) : BitVec 64 := B.getD i 0 ^^^ (~~~ B.getD (i / 5 * 5 + (i + 1) % 5) 0 &&& B.getD (i / 5 * 5 + (i + 2) % 5) 0)
def mixS (A : La) (T : List Int) : La := (List.range 25).map (rowL (bL A T))
theorem dst_ok : ∀ i, i < 25 → dst i < 25 ∧ inv (dst i) = i ∧ ∀ k, k < 25 → inv k = i → k = dst i := by decide
def bF (A : La) (T : List Int) (i : Nat) : La := (List.range 25).map fun k => if inv k < i then tB A T k else 0
theorem bF_len (A : La) (T : List Int) (i : Nat) : (bF A T i).length = 25 := by simp [bF]
theorem bF_set {A : La} {T : List Int} {i : Nat} (h : i < 25) : (bF A T i).set (dst i) (rl (A.getD i 0 ^^^ (dL A).getD (i % 5) 0) (T.getD i 0).toNat) = bF A T (i + 1) := by
  obtain ⟨d1, d2, d3⟩ := dst_ok i h
  apply List.ext_getElem
  · simp [bF]
  · intro k h1 h2
    have hk : k < 25 := by simpa [bF] using h2
    rw [List.getElem_set]
    by_cases e : dst i = k
    · subst e; simp [bF, d2, tB]
    · rw [if_neg e]
      have hne : inv k ≠ i := fun h => e (d3 k hk h).symm
      have : (inv k < i + 1) = (inv k < i) := by apply propext; omega
      simp [bF, this]
theorem bF_all (A : La) (T : List Int) : bF A T 25 = bL A T := by
  apply List.map_congr_left; intro k hk
  have : ∀ k, k < 25 → inv k < 25 := by decide
  rw [if_pos (this k (by simpa using hk))]
theorem bF_zero (A : La) (T : List Int) : bF A T 0 = List.replicate 25 0 := by simp [bF]; rfl
structure Pa (α : Type) where
  l : List α
instance {α : Type} [Enc α] : Enc (Pa α) where
  enc x := .rop false (x.l.map Enc.enc)
  ret x := .rop true (x.l.map Enc.ret)
  ok | .rop fr cs => fr = false ∧ okL α cs | _ => False
  dec | .rop _ cs => ⟨deL α cs⟩ | _ => ⟨[]⟩
  dflt := ⟨[]⟩
  d := Enc.d α + 1
  sound x h := by
    cases x <;> first | exact h.elim | skip
    obtain ⟨rfl, h⟩ := h
    simp only
    rw [← deL_sound h]
  fz H k x h := by
    obtain ⟨j, rfl⟩ := Nat.exists_eq_add_of_le' h
    obtain ⟨h1, h2, h3, h4⟩ := fz_map H (j + Enc.d α) (Nat.le_add_left _ _) x.l
    rw [← Nat.add_assoc]
    simp only [frz, h1, h2, h3, h4, Bool.and_false, Bool.and_true, and_self]
  ow x := by simp only [own]; exact ow_map x.l
  cl x := by simp only [cln, cl_map, Bool.and_true]
  rn m x := by simp only [ren, (rn_map m x.l).1, (rn_map m x.l).2, and_self]
  ik n x := by simp only [idk, (ik_map n x.l).1, (ik_map n x.l).2, and_self]
@[go_sem] theorem enc_p {α : Type} [Enc α] (l : Pa α) : Enc.enc l = .rop false (l.l.map Enc.enc) := rfl
@[go_sem] theorem ret_p {α : Type} [Enc α] (l : Pa α) : Enc.ret l = .rop true (l.l.map Enc.ret) := rfl
@[go_sem] theorem ok_p {α : Type} [Enc α] (cs : List AV) : Enc.ok (Pa α) (.rop false cs) = okL α cs := by show (false = false ∧ _) = _; simp
@[go_sem] theorem dec_p {α : Type} [Enc α] (fr : Bool) (cs : List AV) : (Enc.dec (.rop fr cs) : Pa α) = ⟨deL α cs⟩ := rfl
theorem offsets_fun : Fun Tryz.prog Gs 287 [] (Enc.ret (⟨offs⟩ : Ar Int)) := by
  refine Fun_cc [] mo Tryz.func287 (by decide) cc287 rs287 Tryz.ntmps287 (by simp) ?_
  refine AW_run CtOK_nil 1000 ?_
  simp (maxSteps := 10000000) (disch := omega) only [go_sem, c287, offs, reduceIte, seval, -BitVec.isValue, -BitVec.reduceOfNat, -List.reduceReplicate]
theorem constants_fun : Fun Tryz.prog Gs 288 [] (Enc.ret (⟨kcon⟩ : Ar (BitVec 64))) := by
  refine Fun_cc [] mo Tryz.func288 (by decide) cc288 rs288 Tryz.ntmps288 (by simp) ?_
  refine AW_run CtOK_nil 1000 ?_
  simp (maxSteps := 10000000) (disch := omega) only [go_sem, c288, kcon, reduceIte, seval, -BitVec.isValue, -BitVec.reduceOfNat, -List.reduceReplicate]
theorem rot_fun (x : BitVec 64) (k : Int) (h : 0 ≤ k ∧ k < 64) : Fun Tryz.prog Gs 291 [Enc.enc x, Enc.enc k] (.u64 (rl x k.toNat)) := by
  refine Fun_cc [] mo Tryz.func291 (by decide) cc291 rs291 Tryz.ntmps291 (by simp) ?_
  refine AW_run CtOK_nil 1000 ?_
  obtain ⟨k, rfl⟩ := Int.eq_ofNat_of_zero_le h.1
  have hk : k < 64 := by omega
  have e1 : BitVec.ofInt 64 (k : Int) &&& (63 : BitVec 64) = BitVec.ofNat 64 k := by
    apply BitVec.eq_of_toNat_eq
    simp only [BitVec.toNat_and, BitVec.toNat_ofInt, BitVec.toNat_ofNat]
    rw [show ((k : Int) % ((2 ^ 64 : Nat) : Int)).toNat = k by omega, show (63 : BitVec 64).toNat = 2 ^ 6 - 1 by rfl, Nat.and_two_pow_sub_one_eq_mod]
    omega
  have e2 : (BitVec.ofNat 64 k).toNat = k := by rw [BitVec.toNat_ofNat]; omega
  have e3 : ((64 : BitVec 64) - BitVec.ofNat 64 k).toNat = 64 - k := by rw [BitVec.toNat_sub, e2]; simp; omega
  simp (maxSteps := 10000000) (disch := omega) only [go_sem, c291, e1, e2, e3, reduceIte, seval, -BitVec.isValue, -BitVec.reduceOfNat, -List.reduceReplicate]
  simp only [e1, e2, e3, rl, Int.toNat_natCast]
def ctRot : Nat × (List AV → R) := (291, A2 fun (x : BitVec 64) (k : Int) => (0 ≤ k ∧ k < 64, .u64 (rl x k.toNat)))
theorem ctRot_ok {Ct : List (Nat × (List AV → R))} (h : CtOK Tryz.prog Gs Ct) : CtOK Tryz.prog Gs (ctRot :: Ct) := CtOK_cons (Row2 fun x k h => rot_fun x k h) h
def ctOffs : Nat × (List AV → R) := (287, A0 (True, Enc.ret (⟨offs⟩ : Ar Int)))
theorem ctOffs_ok {Ct : List (Nat × (List AV → R))} (h : CtOK Tryz.prog Gs Ct) : CtOK Tryz.prog Gs (ctOffs :: Ct) := CtOK_cons (Row0 fun _ => offsets_fun) h
def ctKcon : Nat × (List AV → R) := (288, A0 (True, Enc.ret (⟨kcon⟩ : Ar (BitVec 64))))
theorem ctKcon_ok {Ct : List (Nat × (List AV → R))} (h : CtOK Tryz.prog Gs Ct) : CtOK Tryz.prog Gs (ctKcon :: Ct) := CtOK_cons (Row0 fun _ => constants_fun) h
end Go.Lv
namespace Go.Lv
open Go Go.Proofs
set_option linter.unusedSimpArgs false
set_option maxRecDepth 100000
def z25 : List AV := [.u64 0, .u64 0, .u64 0, .u64 0, .u64 0, .u64 0, .u64 0, .u64 0, .u64 0, .u64 0, .u64 0, .u64 0, .u64 0, .u64 0, .u64 0, .u64 0, .u64 0, .u64 0, .u64 0, .u64 0, .u64 0, .u64 0, .u64 0, .u64 0, .u64 0]
theorem z25_len : z25.length = 25 := rfl
@[go_sem] theorem z25_ren (m : List (Nat × Nat)) : ren.renL m z25 = z25 := rfl
@[go_sem] theorem z25_idk (n : Nat) : idk.idkL n z25 = True := by simp [z25, idk.idkL, idk]
theorem fill05 (f : Nat → BitVec 64) : (fillL 5 f (fun _ => 0) 0).map AV.u64 = [.u64 0, .u64 0, .u64 0, .u64 0, .u64 0] := rfl
theorem bF0 (A : La) (T : List Int) : (bF A T 0).map AV.u64 = z25 := by rw [bF_zero]; rfl
def σm1 (A : La) (T : List Int) (i : Nat) : St :=
  ⟨[(1, .rop false (T.map .i)), (2, .ptr 0 0), (4, .ptr 1 0), (5, .ptr 2 0), (6, .ptr 3 0), (15, .i i)], [(0, ⟨A.map .u64, true⟩), (1, ⟨z25, true⟩), (2, ⟨(fillL 5 (colC A) (fun _ => 0) i).map .u64, true⟩), (3, ⟨[.u64 0, .u64 0, .u64 0, .u64 0, .u64 0], true⟩)], 4⟩
def σm2 (A : La) (T : List Int) (i : Nat) : St :=
  ⟨[(1, .rop false (T.map .i)), (2, .ptr 0 0), (4, .ptr 1 0), (5, .ptr 2 0), (6, .ptr 3 0), (44, .i i)], [(0, ⟨A.map .u64, true⟩), (1, ⟨z25, true⟩), (2, ⟨(cL A).map .u64, true⟩), (3, ⟨(fillL 5 (thD A) (fun _ => 0) i).map .u64, true⟩)], 4⟩
def σm3 (A : La) (T : List Int) (i : Nat) : St :=
  ⟨[(1, .rop false (T.map .i)), (2, .ptr 0 0), (4, .ptr 1 0), (6, .ptr 3 0), (9, .ptr 4 0), (62, .i i)], [(0, ⟨A.map .u64, true⟩), (1, ⟨z25, true⟩), (3, ⟨(dL A).map .u64, true⟩), (4, ⟨(bF A T i).map .u64, true⟩)], 5⟩
def σm4 (A : La) (T : List Int) (i : Nat) : St :=
  ⟨[(2, .ptr 0 0), (4, .ptr 1 0), (9, .ptr 4 0), (93, .i i)], [(0, ⟨(fillL 25 (rowL (bL A T)) (fun k => A.getD k 0) i).map .u64, true⟩), (1, ⟨z25, true⟩), (4, ⟨(bL A T).map .u64, true⟩)], 5⟩
theorem cL_len (A : La) : (cL A).length = 5 := by simp [cL]
theorem dL_len (A : La) : (dL A).length = 5 := by simp [dL]
theorem bL_len (A : La) (T : List Int) : (bL A T).length = 25 := by simp [bL]
theorem mapg_id {A : La} {n : Nat} (h : A.length = n) : (List.range n).map (fun k => A.getD k 0) = A := by
  apply List.ext_getElem
  · simp [h]
  · intro i h1 h2; simp [List.getD_eq_getElem?_getD, h2]
theorem fill0A (f : Nat → BitVec 64) {A : La} (h : A.length = 25) : fillL 25 f (fun k => A.getD k 0) 0 = A := by rw [fillL_zero, mapg_id h]
theorem fillMix (A : La) (T : List Int) (g : Nat → BitVec 64) : fillL 25 (rowL (bL A T)) g 25 = mixS A T := fillL_all _ _ _
theorem mixS_len (A : La) (T : List Int) : (mixS A T).length = 25 := by simp [mixS]
theorem mixed_fun (A : La) (T : List Int) (hA : A.length = 25) (hT : T.length = 25) (hT2 : ∀ t ∈ T, 0 ≤ t ∧ t < 64) : Fun Tryz.prog Gs 289 [Enc.enc (⟨A⟩ : Ar (BitVec 64)), Enc.enc (⟨T⟩ : Pa Int)] (Enc.ret (⟨mixS A T⟩ : Ar (BitVec 64))) := by
  refine Fun_cc [ctRot] mo Tryz.func289 (by decide) cc289 rs289 Tryz.ntmps289 (by simp) ?_
  have hct := ctRot_ok CtOK_nil
  refine AW_run hct 1000 ?_
  simp (maxSteps := 10000000) (disch := omega) only [go_sem, c289, reduceIte, seval, -BitVec.isValue, -BitVec.reduceOfNat, -List.reduceReplicate]
  refine AW_loop (σm1 A T) (fun i => i ≤ 5) (fun i => 5 - i) 0 (Nat.zero_le _) (Wk_p [] ?_) fun i hi => ?_
  · simp only [go_sem, σm1, fill05, z25, reduceIte, seval, -BitVec.isValue, -BitVec.reduceOfNat, -List.reduceReplicate]
    try simp
  · refine AW_run hct 1000 ?_
    simp (maxSteps := 10000000) (disch := omega) only [go_sem, σm1, reduceIte, seval, -BitVec.isValue, -BitVec.reduceOfNat, -List.reduceReplicate]
    refine run_br (fun hb => ?_) (fun hb => ?_)
    · have hlt : i < 5 := by have := of_decide_eq_true hb; omega
      have hl := fillL_len 5 (colC A) (fun _ => 0) i
      have hs := fillL_set (f := colC A) (g := fun _ => 0) hlt
      simp (maxSteps := 10000000) (disch := omega) only [go_sem, reduceIte, seval, -BitVec.isValue, -BitVec.reduceOfNat, -List.reduceReplicate]
      have e1 : ((i : Int) + 5).toNat = i + 5 := by omega
      have e2 : ((i : Int) + 10).toNat = i + 10 := by omega
      have e3 : ((i : Int) + 15).toNat = i + 15 := by omega
      have e4 : ((i : Int) + 20).toNat = i + 20 := by omega
      refine ⟨i + 1, by omega, Wk_p [] ?_, by omega⟩
      simp only [go_sem, e1, e2, e3, e4, reduceIte, seval, -BitVec.isValue, -BitVec.reduceOfNat, -List.reduceReplicate]
      rw [← hs]
      simp [colC]
    · have hge : i = 5 := by have := of_decide_eq_false hb; omega
      subst hge
      simp (maxSteps := 10000000) (disch := omega) only [go_sem, fillL_all, reduceIte, seval, -BitVec.isValue, -BitVec.reduceOfNat, -List.reduceReplicate]
      refine AW_loop (σm2 A T) (fun i => i ≤ 5) (fun i => 5 - i) 0 (Nat.zero_le _) (Wk_p [] ?_) fun i hi => ?_
      · simp only [go_sem, σm2, fill05, cL, reduceIte, seval, -BitVec.isValue, -BitVec.reduceOfNat, -List.reduceReplicate]
        try simp
      · refine AW_run hct 1000 ?_
        simp (maxSteps := 10000000) (disch := omega) only [go_sem, σm2, reduceIte, seval, -BitVec.isValue, -BitVec.reduceOfNat, -List.reduceReplicate]
        refine run_br (fun hb => ?_) (fun hb => ?_)
        · have hlt : i < 5 := by have := of_decide_eq_true hb; omega
          have hl := fillL_len 5 (thD A) (fun _ => 0) i
          have hs := fillL_set (f := thD A) (g := fun _ => 0) hlt
          have hcl := cL_len A
          simp (maxSteps := 10000000) (disch := omega) only [go_sem, ctRot, Int.tmod_eq_emod_of_nonneg, reduceIte, seval, -BitVec.isValue, -BitVec.reduceOfNat, -List.reduceReplicate]
          have e1 : (((i : Int) + 4) % 5).toNat = (i + 4) % 5 := by omega
          have e2 : (((i : Int) + 1) % 5).toNat = (i + 1) % 5 := by omega
          refine ⟨i + 1, by omega, Wk_p [] ?_, by omega⟩
          simp only [go_sem, e1, e2, reduceIte, seval, -BitVec.isValue, -BitVec.reduceOfNat, -List.reduceReplicate]
          rw [← hs]
          simp [thD]
        · have hge : i = 5 := by have := of_decide_eq_false hb; omega
          subst hge
          simp (maxSteps := 10000000) (disch := omega) only [go_sem, fillL_all, reduceIte, seval, -BitVec.isValue, -BitVec.reduceOfNat, -List.reduceReplicate]
          refine AW_loop (σm3 A T) (fun i => i ≤ 25) (fun i => 25 - i) 0 (Nat.zero_le _) (Wk_p [] ?_) fun i hi => ?_
          · simp only [go_sem, σm3, bF0, z25, dL, reduceIte, seval, -BitVec.isValue, -BitVec.reduceOfNat, -List.reduceReplicate]
            try simp
          · refine AW_run hct 1000 ?_
            simp (maxSteps := 10000000) (disch := omega) only [go_sem, σm3, reduceIte, seval, -BitVec.isValue, -BitVec.reduceOfNat, -List.reduceReplicate]
            refine run_br (fun hb => ?_) (fun hb => ?_)
            · have hlt : i < 25 := by have := of_decide_eq_true hb; omega
              have hl := bF_len A T i
              have hs := bF_set (A := A) (T := T) hlt
              have hdl := dL_len A
              have ht := hT2 (T.getD i 0) (by simp [List.getD_eq_getElem?_getD, hT, hlt])
              simp (maxSteps := 10000000) (disch := omega) only [go_sem, ctRot, Int.tmod_eq_emod_of_nonneg, Int.tdiv_eq_ediv_of_nonneg, reduceIte, seval, -BitVec.isValue, -BitVec.reduceOfNat, -List.reduceReplicate]
              have e1 : ((i : Int) % 5).toNat = i % 5 := by omega
              have e3 : (5 * ((2 * ((i : Int) % 5) + 3 * ((i : Int) / 5)) % 5) + (i : Int) / 5) = ((dst i : Nat) : Int) := by unfold dst; simp
              have e2 : (5 * ((2 * ((i : Int) % 5) + 3 * ((i : Int) / 5)) % 5) + (i : Int) / 5).toNat = dst i := by rw [e3, Int.toNat_natCast]
              refine ⟨i + 1, by omega, Wk_p [] ?_, by omega⟩
              simp only [go_sem, e1, e2, reduceIte, seval, -BitVec.isValue, -BitVec.reduceOfNat, -List.reduceReplicate]
              rw [← hs]
              simp
            · have hge : i = 25 := by have := of_decide_eq_false hb; omega
              subst hge
              simp (maxSteps := 10000000) (disch := omega) only [go_sem, bF_all, reduceIte, seval, -BitVec.isValue, -BitVec.reduceOfNat, -List.reduceReplicate]
              refine AW_loop (σm4 A T) (fun i => i ≤ 25) (fun i => 25 - i) 0 (Nat.zero_le _) (Wk_p [] ?_) fun i hi => ?_
              · simp only [go_sem, σm4, fill0A _ hA, reduceIte, seval, -BitVec.isValue, -BitVec.reduceOfNat, -List.reduceReplicate]
                try simp
              · refine AW_run hct 1000 ?_
                simp (maxSteps := 10000000) (disch := omega) only [go_sem, σm4, reduceIte, seval, -BitVec.isValue, -BitVec.reduceOfNat, -List.reduceReplicate]
                refine run_br (fun hb => ?_) (fun hb => ?_)
                · have hlt : i < 25 := by have := of_decide_eq_true hb; omega
                  have hl := fillL_len 25 (rowL (bL A T)) (fun k => A.getD k 0) i
                  have hs := fillL_set (f := rowL (bL A T)) (g := fun k => A.getD k 0) hlt
                  have hbl := bL_len A T
                  simp (maxSteps := 10000000) (disch := omega) only [go_sem, Int.tmod_eq_emod_of_nonneg, Int.tdiv_eq_ediv_of_nonneg, reduceIte, seval, -BitVec.isValue, -BitVec.reduceOfNat, -List.reduceReplicate]
                  have e1 : ((i : Int) / 5 * 5 + ((i : Int) + 1) % 5).toNat = i / 5 * 5 + (i + 1) % 5 := by omega
                  have e2 : ((i : Int) / 5 * 5 + ((i : Int) + 2) % 5).toNat = i / 5 * 5 + (i + 2) % 5 := by omega
                  refine ⟨i + 1, by omega, Wk_p [] ?_, by omega⟩
                  simp only [go_sem, e1, e2, reduceIte, seval, -BitVec.isValue, -BitVec.reduceOfNat, -List.reduceReplicate]
                  rw [← hs]
                  simp [rowL]
                · have hge : i = 25 := by have := of_decide_eq_false hb; omega
                  subst hge
                  have hml := mixS_len A T
                  have htk : (mixS A T).take 25 = mixS A T := List.take_of_length_le (by omega)
                  have hz := z25_len
                  simp (maxSteps := 10000000) (disch := omega) only [go_sem, fillMix, htk, List.drop_eq_nil_of_le, List.append_nil, reduceIte, seval, -BitVec.isValue, -BitVec.reduceOfNat, -List.reduceReplicate]
def ctMixed : Nat × (List AV → R) := (289, A2 fun (A : Ar (BitVec 64)) (T : Pa Int) => (A.l.length = 25 ∧ T.l = offs, Enc.ret (⟨mixS A.l offs⟩ : Ar (BitVec 64))))
theorem ctMixed_ok {Ct : List (Nat × (List AV → R))} (h : CtOK Tryz.prog Gs Ct) : CtOK Tryz.prog Gs (ctMixed :: Ct) := CtOK_cons (Row2 fun A T h => by
  obtain ⟨h1, h2⟩ := h
  obtain ⟨T⟩ := T
  obtain rfl : T = offs := h2
  exact mixed_fun A.l offs h1 rfl (by decide)) h
def rndS (A : La) (c : BitVec 64) : La := (mixS A offs).set 0 ((mixS A offs).getD 0 0 ^^^ c)
theorem rndS_len (A : La) (c : BitVec 64) : (rndS A c).length = 25 := by simp [rndS, mixS_len]
def permF (K : La) (A : La) : Nat → La
  | 0 => A
  | n + 1 => rndS (permF K A n) (K.getD n 0)
theorem permF_len (K : La) {A : La} (h : A.length = 25) : ∀ n, (permF K A n).length = 25
  | 0 => h
  | n + 1 => rndS_len _ _
def perm (A : La) : La := permF kcon A 24
theorem perm_len {A : La} (h : A.length = 25) : (perm A).length = 25 := permF_len _ h _
def σpm' (A : La) (i : Nat) : St :=
  ⟨[(1, .ptr 0 0), (2, .ptr 1 0), (3, .ptr 2 0), (7, .agg (kcon.map .u64)), (8, .i i)], [(0, ⟨(permF kcon A i).map .u64, true⟩), (1, ⟨z25, true⟩), (2, ⟨offs.map .i, true⟩)], 3⟩
theorem Permute_fun (A : La) (hA : A.length = 25) : Fun Tryz.prog Gs 283 [Enc.enc (⟨A⟩ : Ar (BitVec 64))] (Enc.ret (⟨perm A⟩ : Ar (BitVec 64))) := by
  refine Fun_cc [ctOffs, ctKcon, ctMixed] mo Tryz.func283 (by decide) cc283 rs283 Tryz.ntmps283 (by simp) ?_
  have hct := ctOffs_ok (ctKcon_ok (ctMixed_ok CtOK_nil))
  refine AW_run hct 1000 ?_
  have hol : offs.length = 25 := rfl
  have hkl : List.length kcon = 24 := rfl
  simp (maxSteps := 10000000) (disch := omega) only [go_sem, c283, ctOffs, ctKcon, ctMixed, hol, reduceIte, seval, -BitVec.isValue, -BitVec.reduceOfNat, -List.reduceReplicate]
  refine AW_loop (σpm' A) (fun i => i ≤ 24) (fun i => 24 - i) 0 (Nat.zero_le _) (Wk_p [] ?_) fun i hi => ?_
  · simp only [go_sem, σpm', z25, permF, reduceIte, seval, -BitVec.isValue, -BitVec.reduceOfNat, -List.reduceReplicate]
    try simp
  · refine AW_run hct 1000 ?_
    have hl := permF_len kcon hA i
    have htk : (permF kcon A i).take 25 = permF kcon A i := List.take_of_length_le (by omega)
    simp (maxSteps := 10000000) (disch := omega) only [go_sem, σpm', reduceIte, seval, -BitVec.isValue, -BitVec.reduceOfNat, -List.reduceReplicate]
    refine run_br (fun hb => ?_) (fun hb => ?_)
    · have hlt : i < 24 := by have := of_decide_eq_true hb; omega
      have hml := mixS_len (permF kcon A i) offs
      have hto : offs.take 25 = offs := rfl
      simp (maxSteps := 10000000) (disch := omega) only [go_sem, ctOffs, ctKcon, ctMixed, htk, hto, List.drop_eq_nil_of_le, List.append_nil, reduceIte, seval, -BitVec.isValue, -BitVec.reduceOfNat, -List.reduceReplicate]
      refine ⟨i + 1, by omega, Wk_p [] ?_, by omega⟩
      simp only [go_sem, reduceIte, seval, -BitVec.isValue, -BitVec.reduceOfNat, -List.reduceReplicate]
      simp [permF, rndS]
    · have hge : i = 24 := by have := of_decide_eq_false hb; omega
      subst hge
      have hz := z25_len
      simp (maxSteps := 10000000) (disch := omega) only [go_sem, htk, List.drop_eq_nil_of_le, List.append_nil, reduceIte, seval, -BitVec.isValue, -BitVec.reduceOfNat, -List.reduceReplicate]
      simp [perm]
end Go.Lv
namespace Go.Lv
open Go Go.Proofs
set_option linter.unusedSimpArgs false
set_option maxRecDepth 100000
@[go_sem] theorem own_app : ∀ (l m : List AV), own.ownL (l ++ m) = (own.ownL l || own.ownL m)
  | [], m => by simp [own.ownL]
  | x :: l, m => by simp [own.ownL, own_app l m, Bool.or_assoc]
@[go_sem] theorem ren_app (k : List (Nat × Nat)) : ∀ (l m : List AV), ren.renL k (l ++ m) = ren.renL k l ++ ren.renL k m
  | [], m => by simp [ren.renL]
  | x :: l, m => by simp [ren.renL, ren_app k l m]
@[go_sem] theorem idk_app (k : Nat) : ∀ (l m : List AV), idk.idkL k (l ++ m) = (idk.idkL k l ∧ idk.idkL k m)
  | [], m => by simp [idk.idkL]
  | x :: l, m => by simp [idk.idkL, idk_app k l m, and_assoc]
@[go_sem] theorem frz_app (H : List (Nat × Seg)) (k : Nat) (fl : Bool) (l m : List AV) : (l ++ m).map (frz H k fl) = l.map (frz H k fl) ++ m.map (frz H k fl) := List.map_append
attribute [go_sem] Bool.or_false Bool.false_or Option.isSome_none Option.isNone_none Option.isSome_some Option.isNone_some Bool.false_and Bool.true_and cond_false cond_true
theorem dom0 {nx : Nat} (h : Nat.blt 0 nx = true) : ∀ i ∈ [0], i < nx ∧ lkd i [] i = i := by
  intro i hi
  simp only [List.mem_singleton] at hi
  subst hi
  exact ⟨by simpa using h, rfl⟩
def spC (k : Option (Bool × Int)) (s : La) (r a : Nat) : List AV := match k with
  | none => s.map .u64 ++ [.i r, .i a]
  | some (m, c) => .b m :: (s.map .u64 ++ [.i r, .i a, .i c])
def spO (k : Option (Bool × Int)) : Nat := match k with
  | none => 0
  | some _ => 1
def putS (s : La) (a : Nat) (x : BitVec 8) : La := s.set (a / 8) (s.getD (a / 8) 0 ^^^ (x.setWidth 64 <<< (8 * (a % 8))))
theorem putS_len (s : La) (a : Nat) (x : BitVec 8) : (putS s a x).length = s.length := by simp [putS]
theorem gA {s : La} {r : List AV} {i : Nat} {d : AV} (h : i < s.length) : (s.map AV.u64 ++ r).getD i d = .u64 (s.getD i 0) := by
  simp [List.getD_eq_getElem?_getD, List.getElem?_append, h]
theorem gB {s : La} {r : List AV} {i : Nat} {d : AV} (h : s.length ≤ i) : (s.map AV.u64 ++ r).getD i d = r.getD (i - s.length) d := by
  simp [List.getD_eq_getElem?_getD, List.getElem?_append_right, h]
theorem gC {x : AV} {l : List AV} {i : Nat} {d : AV} (h : 0 < i) : (x :: l).getD i d = l.getD (i - 1) d := by
  obtain ⟨j, rfl⟩ := Nat.exists_eq_succ_of_ne_zero (by omega : i ≠ 0); simp
theorem sA {s : La} {r : List AV} {i : Nat} {v : BitVec 64} (h : i < s.length) : (s.map AV.u64 ++ r).set i (.u64 v) = (s.set i v).map AV.u64 ++ r := by
  rw [List.set_append_left _ _ (by simpa using h), List.map_set]
theorem sB {s : La} {r : List AV} {i : Nat} {v : AV} (h : s.length ≤ i) : (s.map AV.u64 ++ r).set i v = s.map AV.u64 ++ r.set (i - s.length) v := by
  rw [List.set_append_right _ _ (by simpa using h), List.length_map]
theorem sC {x v : AV} {l : List AV} {i : Nat} (h : 0 < i) : (x :: l).set i v = x :: l.set (i - 1) v := by
  obtain ⟨j, rfl⟩ := Nat.exists_eq_succ_of_ne_zero (by omega : i ≠ 0); simp
theorem dC {x : AV} {l : List AV} {i : Nat} (h : 0 < i) : (x :: l).drop i = l.drop (i - 1) := by
  obtain ⟨j, rfl⟩ := Nat.exists_eq_succ_of_ne_zero (by omega : i ≠ 0); simp
theorem tC {x : AV} {l : List AV} {i : Nat} (h : 0 < i) : (x :: l).take i = x :: l.take (i - 1) := by
  obtain ⟨j, rfl⟩ := Nat.exists_eq_succ_of_ne_zero (by omega : i ≠ 0); simp
theorem tA {s : La} {r : List AV} {n : Nat} (h : s.length = n) : (s.map AV.u64 ++ r).take n = s.map AV.u64 := List.take_left' (by simpa using h)
theorem tB' {s : La} {r : List AV} {n : Nat} (h : s.length = n) : (s.map AV.u64 ++ r).drop n = r := List.drop_left' (by simpa using h)
theorem put_funG (k : Option (Bool × Int)) (s : La) (r a : Nat) (x : BitVec 8) (hs : s.length = 25) (ha : a < 200) :
    FunG Tryz.prog Gs 286 [.ptr 0 (spO k), Enc.enc x] [(0, ⟨spC k s r a, false⟩)] (.tup []) [(0, ⟨spC k (putS s a x) r a, false⟩)] := by
  refine FunG_cc [] [0] 1 mo Tryz.func286 (by decide) cc286 rs286 Tryz.ntmps286 (by simp) rfl (by decide) rfl ?_
  refine AW_run CtOK_nil 1000 ?_
  have e1 : ((a : Int) / 8).toNat = a / 8 := by omega
  have e2 : (8 * ((a : Int) % 8)).toNat = 8 * (a % 8) := by omega
  cases k with
  | none =>
    simp (maxSteps := 10000000) (disch := omega) only [go_sem, c286, spC, spO, List.length_map, hs, Int.tdiv_eq_ediv_of_nonneg, Int.tmod_eq_emod_of_nonneg, gA, gB, sA, sB, tA, tB', reduceIte, seval, -BitVec.isValue, -BitVec.reduceOfNat, -List.reduceReplicate]
    simp only [putS, e1, e2]
  | some k =>
    obtain ⟨m, c⟩ := k
    simp (maxSteps := 10000000) (disch := omega) only [go_sem, c286, spC, spO, List.length_map, hs, Int.tdiv_eq_ediv_of_nonneg, Int.tmod_eq_emod_of_nonneg, gA, gB, gC, sA, sB, sC, tA, tB', reduceIte, seval, -BitVec.isValue, -BitVec.reduceOfNat, -List.reduceReplicate]
    simp only [putS, e1, e2, Nat.add_sub_cancel_left]
def ctPerm : Nat × (List AV → R) := (283, A1 fun A : Ar (BitVec 64) => (A.l.length = 25, Enc.ret (⟨perm A.l⟩ : Ar (BitVec 64))))
theorem ctPerm_ok {Ct : List (Nat × (List AV → R))} (h : CtOK Tryz.prog Gs Ct) : CtOK Tryz.prog Gs (ctPerm :: Ct) := CtOK_cons (Row1 fun A h => Permute_fun A.l h) h
def stepA (r : Nat) (st : La × Nat) (x : BitVec 8) : La × Nat := if st.2 + 1 = r then (perm (putS st.1 st.2 x), 0) else (putS st.1 st.2 x, st.2 + 1)
def absorb (r : Nat) (st : La × Nat) (l : List (BitVec 8)) : La × Nat := l.foldl (stepA r) st
theorem stepA_ok {r : Nat} {st : La × Nat} {x : BitVec 8} (h : st.1.length = 25 ∧ st.2 < r) : (stepA r st x).1.length = 25 ∧ (stepA r st x).2 < r := by
  unfold stepA
  split
  · exact ⟨perm_len (by rw [putS_len]; exact h.1), by simp only; omega⟩
  · exact ⟨by rw [putS_len]; exact h.1, by simp only; omega⟩
theorem absorb_ok {r : Nat} : ∀ (l : List (BitVec 8)) {st : La × Nat}, st.1.length = 25 ∧ st.2 < r → (absorb r st l).1.length = 25 ∧ (absorb r st l).2 < r
  | [], _, h => h
  | x :: l, _, h => absorb_ok l (stepA_ok h)
theorem absorb_app (r : Nat) (st : La × Nat) (l m : List (BitVec 8)) : absorb r st (l ++ m) = absorb r (absorb r st l) m := by simp [absorb]
def takesS (s : La) (r a : Nat) (e : BitVec 8) (text : List (BitVec 8)) : La := perm (putS (putS (absorb r (s, a) text).1 (absorb r (s, a) text).2 e) (r - 1) 128)
theorem takesS_len {s : La} {r a : Nat} {e : BitVec 8} {text : List (BitVec 8)} (hs : s.length = 25) (ha : a < r) : (takesS s r a e text).length = 25 := by
  rw [takesS]; exact perm_len (by rw [putS_len, putS_len]; exact (absorb_ok text ⟨hs, ha⟩).1)
def bitsAt (k : Option (Bool × Int)) (s : La) (r a : Nat) (e : BitVec 8) (ps : List (List (BitVec 8))) (j : Nat) : La × Nat := absorb r (s, a) (ps.take j).flatten
def bitsIn (k : Option (Bool × Int)) (s : La) (r a : Nat) (e : BitVec 8) (ps : List (List (BitVec 8))) (j i : Nat) : La × Nat := absorb r (s, a) ((ps.take j).flatten ++ (ps.getD j []).take i)
theorem bitsIn_zero (k : Option (Bool × Int)) (s : La) (r a : Nat) (e : BitVec 8) (ps : List (List (BitVec 8))) (j : Nat) : bitsIn k s r a e ps j 0 = bitsAt k s r a e ps j := by simp [bitsIn, bitsAt]
theorem bitsIn_succ (k : Option (Bool × Int)) (s : La) (r a : Nat) (e : BitVec 8) (ps : List (List (BitVec 8))) (j i : Nat) (h : i < (ps.getD j []).length) : bitsIn k s r a e ps j (i + 1) = stepA r (bitsIn k s r a e ps j i) ((ps.getD j []).getD i 0) := by
  simp only [bitsIn]
  rw [List.take_succ_eq_append_getElem h, ← List.append_assoc, absorb_app]
  have e : (ps.getD j []).getD i 0 = (ps.getD j [])[i] := by rw [List.getD_eq_getElem?_getD, List.getElem?_eq_getElem h, Option.getD_some]
  rw [e]; rfl
theorem bitsIn_all (k : Option (Bool × Int)) (s : La) (r a : Nat) (e : BitVec 8) (ps : List (List (BitVec 8))) (j : Nat) (h : j < ps.length) : bitsIn k s r a e ps j (ps.getD j []).length = bitsAt k s r a e ps (j + 1) := by
  simp only [bitsIn, bitsAt]
  rw [List.take_length, List.take_succ_eq_append_getElem h, List.flatten_append]
  simp [List.getD_eq_getElem?_getD, h]
def σt1 (k : Option (Bool × Int)) (s : La) (r a : Nat) (e : BitVec 8) (ps : List (List (BitVec 8))) (j : Nat) : St :=
  ⟨[(0, .ptr 0 (spO k)), (1, .u8 e), (10, Enc.enc ps), (11, .i ps.length), (12, .i j)], [(0, ⟨spC k (bitsAt k s r a e ps j).1 r (bitsAt k s r a e ps j).2, false⟩)], 1⟩
def σt2 (k : Option (Bool × Int)) (s : La) (r a : Nat) (e : BitVec 8) (ps : List (List (BitVec 8))) (j i : Nat) : St :=
  ⟨[(0, .ptr 0 (spO k)), (1, .u8 e), (10, Enc.enc ps), (11, .i ps.length), (12, .i j), (16, Enc.enc (ps.getD j [])), (17, .i (ps.getD j []).length), (18, .i i)], [(0, ⟨spC k (bitsIn k s r a e ps j i).1 r (bitsIn k s r a e ps j i).2, false⟩)], 1⟩
set_option maxHeartbeats 4000000 in
theorem takes_s (m : Bool) (c : Int) (s : La) (r a : Nat) (e : BitVec 8) (ps : List (List (BitVec 8))) (hs : s.length = 25) (ha : a < r) (hr : r ≤ 200) (hp : ps.length ≤ 140737488351232) (hq : ∀ x ∈ ps, x.length ≤ 140737488351232) :
    FunG Tryz.prog Gs 282 [.ptr 0 (spO (some (m, c))), Enc.enc e, Enc.enc ps] [(0, ⟨spC (some (m, c)) s r a, false⟩)] (.tup []) [(0, ⟨spC (some (m, c)) (takesS s r a e ps.flatten) r 0, false⟩)] := by
  refine FunG_cc [] [0] 1 mo Tryz.func282 (by decide) cc282 rs282 Tryz.ntmps282 (by simp) rfl (by decide) rfl ?_
  refine AW_run CtOK_nil 1000 ?_
  have hct := ctPerm_ok CtOK_nil
  simp (maxSteps := 10000000) (disch := omega) only [go_sem, c282, spC, spO, reduceIte, seval, -BitVec.isValue, -BitVec.reduceOfNat, -List.reduceReplicate]
  refine AW_loop (σt1 (some (m, c)) s r a e ps) (fun j => j ≤ ps.length) (fun j => ps.length - j) 0 (Nat.zero_le _) (Wk_d [] (dom0 rfl) ?_) fun j hj => ?_
  · simp only [go_sem, σt1, bitsAt, absorb, spC, spO, List.take_zero, List.flatten_nil, List.foldl_nil, reduceIte, seval, -BitVec.isValue, -BitVec.reduceOfNat, -List.reduceReplicate]
    try simp
  · refine AW_run CtOK_nil 1000 ?_
    have hok : (bitsAt (some (m, c)) s r a e ps j).1.length = 25 ∧ (bitsAt (some (m, c)) s r a e ps j).2 < r := absorb_ok _ ⟨hs, ha⟩
    obtain ⟨hs', ha'⟩ := hok
    simp (maxSteps := 10000000) (disch := omega) only [go_sem, σt1, spC, spO, reduceIte, seval, -BitVec.isValue, -BitVec.reduceOfNat, -List.reduceReplicate]
    refine run_br (fun hb => ?_) (fun hb => ?_)
    · have hlt : j < ps.length := by have := of_decide_eq_true hb; omega
      have hql : (ps.getD j []).length ≤ 140737488351232 := hq _ (by simp [List.getD_eq_getElem?_getD, hlt])
      simp (maxSteps := 10000000) (disch := omega) only [go_sem, reduceIte, seval, -BitVec.isValue, -BitVec.reduceOfNat, -List.reduceReplicate]
      refine AW_loop (σt2 (some (m, c)) s r a e ps j) (fun i => i ≤ (ps.getD j []).length) (fun i => (ps.getD j []).length - i) 0 (Nat.zero_le _) (Wk_d [] (dom0 rfl) ?_) fun i hi => ?_
      · simp only [go_sem, σt2, bitsIn_zero, spC, spO, reduceIte, seval, -BitVec.isValue, -BitVec.reduceOfNat, -List.reduceReplicate]
        try simp
      · refine AW_run CtOK_nil 1000 ?_
        have hok : (bitsIn (some (m, c)) s r a e ps j i).1.length = 25 ∧ (bitsIn (some (m, c)) s r a e ps j i).2 < r := absorb_ok _ ⟨hs, ha⟩
        obtain ⟨hs', ha'⟩ := hok
        simp (maxSteps := 10000000) (disch := omega) only [go_sem, σt2, spC, spO, reduceIte, seval, -BitVec.isValue, -BitVec.reduceOfNat, -List.reduceReplicate]
        refine run_br (fun hd => ?_) (fun hd => ?_)
        · have hil : i < (ps.getD j []).length := by have := of_decide_eq_true hd; omega
          simp (maxSteps := 10000000) (disch := omega) only [go_sem, reduceIte, seval, -BitVec.isValue, -BitVec.reduceOfNat, -List.reduceReplicate]
          refine AW_callG [(0, 0)] [] 1 [] false (by simp only [go_sem, reduceIte, seval, -BitVec.isValue, -BitVec.reduceOfNat, -List.reduceReplicate]) (by simp only [go_sem, reduceIte, seval, -BitVec.isValue, -BitVec.reduceOfNat, -List.reduceReplicate]) (put_funG (some (m, c)) (bitsIn (some (m, c)) s r a e ps j i).1 r (bitsIn (some (m, c)) s r a e ps j i).2 ((ps.getD j []).getD i 0) hs' (by omega)) (by rfl) (.inr rfl) (by simp only [go_sem, reduceIte, seval, -BitVec.isValue, -BitVec.reduceOfNat, -List.reduceReplicate]) (by rfl) (by simp only [go_sem, spO, reduceIte, seval, -BitVec.isValue, -BitVec.reduceOfNat, -List.reduceReplicate]) (by simp only [go_sem, spC, own_app, List.length_append, List.length_map, putS_len, reduceIte, seval, -BitVec.isValue, -BitVec.reduceOfNat, -List.reduceReplicate]) (by simp only [go_sem, reduceIte, seval, -BitVec.isValue, -BitVec.reduceOfNat, -List.reduceReplicate]) (by simp only [go_sem, spC, reduceIte, seval, -BitVec.isValue, -BitVec.reduceOfNat, -List.reduceReplicate]) ?_
          have hs2 := putS_len (bitsIn (some (m, c)) s r a e ps j i).1 (bitsIn (some (m, c)) s r a e ps j i).2 ((ps.getD j []).getD i 0)
          rw [hs'] at hs2
          have hp2 := perm_len hs2
          refine AW_ct [ctPerm] (AW_run hct 1000 ?_)
          have hstep := bitsIn_succ (some (m, c)) s r a e ps j i hil
          unfold stepA at hstep
          by_cases hr1 : (bitsIn (some (m, c)) s r a e ps j i).2 + 1 = r
          · rw [if_pos hr1] at hstep
            have hr2 : ((bitsIn (some (m, c)) s r a e ps j i).2 : Int) + 1 = r := by omega
            simp (maxSteps := 10000000) (disch := omega) only [go_sem, spC, spO, hs', Int.tdiv_eq_ediv_of_nonneg, Int.tmod_eq_emod_of_nonneg, gA, gB, gC, sA, sB, sC, tA, tB', List.length_map, List.length_append, ctPerm, List.set_cons_zero, List.set_cons_succ, List.getD_cons_zero, List.getD_cons_succ, hs2, hp2, hr2, dC, tC, reduceIte, seval, -BitVec.isValue, -BitVec.reduceOfNat, -List.reduceReplicate]
            refine ⟨i + 1, by omega, Wk_d [] (dom0 rfl) ?_, by omega⟩
            simp only [go_sem, spC, spO, hstep, reduceIte, seval, -BitVec.isValue, -BitVec.reduceOfNat, -List.reduceReplicate]
            simp
          · rw [if_neg hr1] at hstep
            have hr2 : ¬ (((bitsIn (some (m, c)) s r a e ps j i).2 : Int) + 1 = r) := by omega
            simp (maxSteps := 10000000) (disch := omega) only [go_sem, spC, spO, hs', Int.tdiv_eq_ediv_of_nonneg, Int.tmod_eq_emod_of_nonneg, gA, gB, gC, sA, sB, sC, tA, tB', List.length_map, List.length_append, ctPerm, List.set_cons_zero, List.set_cons_succ, List.getD_cons_zero, List.getD_cons_succ, hs2, hp2, hr2, dC, tC, reduceIte, seval, -BitVec.isValue, -BitVec.reduceOfNat, -List.reduceReplicate]
            refine ⟨i + 1, by omega, Wk_d [] (dom0 rfl) ?_, by omega⟩
            simp only [go_sem, spC, spO, hstep, reduceIte, seval, -BitVec.isValue, -BitVec.reduceOfNat, -List.reduceReplicate]
            simp
        · have hie : i = (ps.getD j []).length := by have := of_decide_eq_false hd; omega
          subst hie
          simp (maxSteps := 10000000) (disch := omega) only [go_sem, reduceIte, seval, -BitVec.isValue, -BitVec.reduceOfNat, -List.reduceReplicate]
          refine ⟨j + 1, by omega, Wk_d [] (dom0 rfl) ?_, by omega⟩
          simp only [go_sem, σt1, spC, spO, bitsIn_all _ _ _ _ _ _ _ hlt, reduceIte, seval, -BitVec.isValue, -BitVec.reduceOfNat, -List.reduceReplicate]
          simp
    · have hje : j = ps.length := by have := of_decide_eq_false hb; omega
      subst hje
      have hall : bitsAt (some (m, c)) s r a e ps ps.length = absorb r (s, a) ps.flatten := by simp [bitsAt]
      rw [hall] at hs' ha'
      simp only [hall]
      generalize hst : absorb r (s, a) ps.flatten = st at *
      simp (maxSteps := 10000000) (disch := omega) only [go_sem, reduceIte, seval, -BitVec.isValue, -BitVec.reduceOfNat, -List.reduceReplicate]
      refine AW_callG [(0, 0)] [] 1 [] false (by simp only [go_sem, reduceIte, seval, -BitVec.isValue, -BitVec.reduceOfNat, -List.reduceReplicate]) (by simp only [go_sem, reduceIte, seval, -BitVec.isValue, -BitVec.reduceOfNat, -List.reduceReplicate]) (put_funG (some (m, c)) st.1 r st.2 e hs' (by omega)) (by rfl) (.inr rfl) (by simp only [go_sem, reduceIte, seval, -BitVec.isValue, -BitVec.reduceOfNat, -List.reduceReplicate]) (by rfl) (by simp only [go_sem, spO, reduceIte, seval, -BitVec.isValue, -BitVec.reduceOfNat, -List.reduceReplicate]) (by simp only [go_sem, spC, own_app, List.length_append, List.length_map, putS_len, reduceIte, seval, -BitVec.isValue, -BitVec.reduceOfNat, -List.reduceReplicate]) (by simp only [go_sem, reduceIte, seval, -BitVec.isValue, -BitVec.reduceOfNat, -List.reduceReplicate]) (by simp only [go_sem, spC, reduceIte, seval, -BitVec.isValue, -BitVec.reduceOfNat, -List.reduceReplicate]) ?_
      have hs2 := putS_len st.1 st.2 e
      rw [hs'] at hs2
      refine AW_ct [] (AW_run CtOK_nil 1000 ?_)
      have er : ((r : Int) - 1) = ((r - 1 : Nat) : Int) := by omega
      simp (maxSteps := 10000000) (disch := omega) only [go_sem, spC, spO, hs', Int.tdiv_eq_ediv_of_nonneg, Int.tmod_eq_emod_of_nonneg, gA, gB, gC, sA, sB, sC, tA, tB', List.length_map, List.length_append, ctPerm, List.set_cons_zero, List.set_cons_succ, List.getD_cons_zero, List.getD_cons_succ, hs2, er, reduceIte, seval, -BitVec.isValue, -BitVec.reduceOfNat, -List.reduceReplicate]
      refine AW_callG [(0, 0)] [] 1 [] false (by simp only [go_sem, reduceIte, seval, -BitVec.isValue, -BitVec.reduceOfNat, -List.reduceReplicate]) (by simp only [go_sem, reduceIte, seval, -BitVec.isValue, -BitVec.reduceOfNat, -List.reduceReplicate]) (put_funG (some (m, c)) (putS st.1 st.2 e) r (r - 1) 128 hs2 (by omega)) (by rfl) (.inr rfl) (by simp only [go_sem, reduceIte, seval, -BitVec.isValue, -BitVec.reduceOfNat, -List.reduceReplicate]) (by rfl) (by simp only [go_sem, spO, reduceIte, seval, -BitVec.isValue, -BitVec.reduceOfNat, -List.reduceReplicate]) (by simp only [go_sem, spC, own_app, List.length_append, List.length_map, putS_len, reduceIte, seval, -BitVec.isValue, -BitVec.reduceOfNat, -List.reduceReplicate]) (by simp only [go_sem, reduceIte, seval, -BitVec.isValue, -BitVec.reduceOfNat, -List.reduceReplicate]) (by simp only [go_sem, spC, reduceIte, seval, -BitVec.isValue, -BitVec.reduceOfNat, -List.reduceReplicate]) ?_
      have hs3 := putS_len (putS st.1 st.2 e) (r - 1) 128
      rw [hs2] at hs3
      have hp3 := perm_len hs3
      refine AW_ct [ctPerm] (AW_run hct 1000 ?_)
      simp (maxSteps := 10000000) (disch := omega) only [go_sem, spC, spO, hs', Int.tdiv_eq_ediv_of_nonneg, Int.tmod_eq_emod_of_nonneg, gA, gB, gC, sA, sB, sC, tA, tB', List.length_map, List.length_append, ctPerm, List.set_cons_zero, List.set_cons_succ, List.getD_cons_zero, List.getD_cons_succ, hs3, hp3, dC, tC, reduceIte, seval, -BitVec.isValue, -BitVec.reduceOfNat, -List.reduceReplicate]
      simp [takesS, hst]
end Go.Lv
namespace Go.Lv
open Go Go.Proofs
set_option linter.unusedSimpArgs false
set_option maxRecDepth 100000
def prep (r : Nat) (st : La × Nat) : La × Nat := if st.2 = r then (perm st.1, 0) else st
def byteG (st : La × Nat) : BitVec 8 := (st.1.getD (st.2 / 8) 0 >>> (8 * (st.2 % 8))).setWidth 8
def gS (r : Nat) (st : La × Nat) : Nat → La × Nat
  | 0 => st
  | i + 1 => ((prep r (gS r st i)).1, (prep r (gS r st i)).2 + 1)
def gBy (r : Nat) (st : La × Nat) (i : Nat) : BitVec 8 := byteG (prep r (gS r st i))
def gO (r : Nat) (st : La × Nat) (n : Nat) : List (BitVec 8) := (List.range n).map (gBy r st)
theorem prep_ok {r : Nat} {st : La × Nat} (h : st.1.length = 25 ∧ st.2 ≤ r) (hr : 0 < r) : (prep r st).1.length = 25 ∧ (prep r st).2 < r := by
  unfold prep
  split
  · exact ⟨perm_len h.1, hr⟩
  · exact ⟨h.1, by omega⟩
theorem gS_ok {r : Nat} (hr : 0 < r) {st : La × Nat} (h : st.1.length = 25 ∧ st.2 ≤ r) : ∀ i, (gS r st i).1.length = 25 ∧ (gS r st i).2 ≤ r
  | 0 => h
  | i + 1 => by
    have := prep_ok (gS_ok hr h i) hr
    exact ⟨this.1, by simp only [gS]; omega⟩
theorem map8_id {A : List (BitVec 8)} {n : Nat} (h : A.length = n) : (List.range n).map (fun k => A.getD k 0) = A := by
  apply List.ext_getElem
  · simp [h]
  · intro i h1 h2; simp [List.getD_eq_getElem?_getD, h2]
theorem fill80 (f : Nat → BitVec 8) {A : List (BitVec 8)} {n : Nat} (h : A.length = n) : fillL n f (fun k => A.getD k 0) 0 = A := by rw [fillL_zero, map8_id h]
theorem dom01 {nx : Nat} (h : Nat.blt 1 nx = true) : ∀ i ∈ [0, 1], i < nx ∧ lkd i [] i = i := by
  intro i hi
  have : 1 < nx := by simpa using h
  rcases List.mem_cons.1 hi with rfl | hi
  · exact ⟨by omega, rfl⟩
  · simp only [List.mem_singleton] at hi
    subst hi
    exact ⟨this, rfl⟩
def σg (k : Option (Bool × Int)) (r : Nat) (st : La × Nat) (o : List (BitVec 8)) (i : Nat) : St :=
  ⟨[(0, .ptr 0 (spO k)), (1, .sl 1 0 o.length 1), (5, .sl 1 0 o.length 1), (6, .i o.length), (7, .i i)],
   [(0, ⟨spC k (gS r st i).1 r (gS r st i).2, false⟩), (1, ⟨(fillL o.length (gBy r st) (fun k => o.getD k 0) i).map .u8, false⟩)], 2⟩
set_option maxHeartbeats 4000000 in
theorem gives_s (m : Bool) (c : Int) (r : Nat) (st : La × Nat) (o : List (BitVec 8)) (hs : st.1.length = 25 ∧ st.2 ≤ r) (hr0 : 0 < r) (hr : r ≤ 200) (ho : o.length ≤ 1000000000) :
    FunG Tryz.prog Gs 279 [.ptr 0 (spO (some (m, c))), .sl 1 0 o.length 1] [(0, ⟨spC (some (m, c)) st.1 r st.2, false⟩), (1, ⟨o.map .u8, false⟩)] (.tup []) [(0, ⟨spC (some (m, c)) (gS r st o.length).1 r (gS r st o.length).2, false⟩), (1, ⟨(gO r st o.length).map .u8, false⟩)] := by
  refine FunG_cc [ctPerm] [0, 1] 2 mo Tryz.func279 (by decide) cc279 rs279 Tryz.ntmps279 (by simp) rfl (by decide) rfl ?_
  have hct := ctPerm_ok CtOK_nil
  refine AW_run hct 1000 ?_
  simp (maxSteps := 10000000) (disch := omega) only [go_sem, c279, spC, spO, reduceIte, seval, -BitVec.isValue, -BitVec.reduceOfNat, -List.reduceReplicate]
  refine AW_loop (σg (some (m, c)) r st o) (fun j => j ≤ o.length) (fun j => o.length - j) 0 (Nat.zero_le _) (Wk_d [] (dom01 rfl) ?_) fun i hi => ?_
  · simp only [go_sem, σg, gS, spC, spO, fill80 _ rfl, reduceIte, seval, -BitVec.isValue, -BitVec.reduceOfNat, -List.reduceReplicate]
    try simp
  · refine AW_run hct 1000 ?_
    obtain ⟨hs', ha'⟩ := gS_ok hr0 hs i
    obtain ⟨hp1, hp2⟩ := prep_ok (gS_ok hr0 hs i) hr0
    have hl := fillL_len o.length (gBy r st) (fun k => o.getD k 0) i
    simp (maxSteps := 10000000) (disch := omega) only [go_sem, σg, spC, spO, reduceIte, seval, -BitVec.isValue, -BitVec.reduceOfNat, -List.reduceReplicate]
    refine run_br (fun hb => ?_) (fun hb => ?_)
    · have hlt : i < o.length := by have := of_decide_eq_true hb; omega
      have hset := fillL_set (f := gBy r st) (g := fun k => o.getD k 0) hlt
      have hgb : gBy r st i = byteG (prep r (gS r st i)) := rfl
      by_cases hr1 : (gS r st i).2 = r
      · have hr2 : ((gS r st i).2 : Int) = r := by omega
        have hpr : prep r (gS r st i) = (perm (gS r st i).1, 0) := by simp [prep, hr1]
        rw [hpr] at hgb hp1 hp2
        simp only at hp1 hp2
        simp (maxSteps := 10000000) (disch := omega) only [go_sem, hs', Int.tdiv_eq_ediv_of_nonneg, Int.tmod_eq_emod_of_nonneg, gA, gB, gC, sA, sB, sC, tA, tB', dC, tC, List.length_map, List.length_append, ctPerm, List.set_cons_zero, List.set_cons_succ, List.getD_cons_zero, List.getD_cons_succ, hr2, hp1, Int.tdiv_eq_ediv_of_nonneg, reduceIte, seval, -BitVec.isValue, -BitVec.reduceOfNat, -List.reduceReplicate]
        refine ⟨i + 1, by omega, Wk_d [] (dom01 rfl) ?_, by omega⟩
        simp only [go_sem, spC, spO, gS, hpr, reduceIte, seval, -BitVec.isValue, -BitVec.reduceOfNat, -List.reduceReplicate]
        rw [← hset, hgb]
        simp [byteG]
      · have hr2 : ¬ (((gS r st i).2 : Int) = r) := by omega
        have hpr : prep r (gS r st i) = gS r st i := by simp [prep, hr1]
        rw [hpr] at hgb hp1 hp2
        simp (maxSteps := 10000000) (disch := omega) only [go_sem, hs', Int.tdiv_eq_ediv_of_nonneg, Int.tmod_eq_emod_of_nonneg, gA, gB, gC, sA, sB, sC, tA, tB', dC, tC, List.length_map, List.length_append, ctPerm, List.set_cons_zero, List.set_cons_succ, List.getD_cons_zero, List.getD_cons_succ, hr2, reduceIte, seval, -BitVec.isValue, -BitVec.reduceOfNat, -List.reduceReplicate]
        have e1 : (((gS r st i).2 : Int) / 8).toNat = (gS r st i).2 / 8 := by omega
        have e2 : (8 * (((gS r st i).2 : Int) % 8)).toNat = 8 * ((gS r st i).2 % 8) := by omega
        refine ⟨i + 1, by omega, Wk_d [] (dom01 rfl) ?_, by omega⟩
        simp only [go_sem, spC, spO, gS, hpr, e1, e2, reduceIte, seval, -BitVec.isValue, -BitVec.reduceOfNat, -List.reduceReplicate]
        rw [← hset, hgb]
        simp [byteG]
    · have hje : i = o.length := by have := of_decide_eq_false hb; omega
      subst hje
      simp (maxSteps := 10000000) (disch := omega) only [go_sem, reduceIte, seval, -BitVec.isValue, -BitVec.reduceOfNat, -List.reduceReplicate]
      simp [gO, fillL_all]
end Go.Lv
namespace Go.Lv
open Go Go.Proofs
set_option linter.unusedSimpArgs false
set_option maxRecDepth 100000
def z0 : La := List.replicate 25 0
def takes0 (r : Nat) (e : BitVec 8) (text : List (BitVec 8)) : La := takesS z0 r 0 e text
theorem takes0_len {r : Nat} {e : BitVec 8} {text : List (BitVec 8)} (hr : 0 < r) : (takes0 r e text).length = 25 := takesS_len rfl hr
def sha3S (r : Nat) (e : BitVec 8) (n : Nat) (text : List (BitVec 8)) : List (BitVec 8) := gO r (takes0 r e text, 0) n
theorem gO_len (r : Nat) (st : La × Nat) (n : Nat) : (gO r st n).length = n := by simp [gO]
theorem spC0s (m : Bool) (c : Int) (r a : Nat) : spC (some (m, c)) z0 r a = [.b m, .u64 0, .u64 0, .u64 0, .u64 0, .u64 0, .u64 0, .u64 0, .u64 0, .u64 0, .u64 0, .u64 0, .u64 0, .u64 0, .u64 0, .u64 0, .u64 0, .u64 0, .u64 0, .u64 0, .u64 0, .u64 0, .u64 0, .u64 0, .u64 0, .u64 0, .i r, .i a, .i c] := rfl
theorem spCs_len (m : Bool) (c : Int) (s : La) (r a : Nat) : (spC (some (m, c)) s r a).length = s.length + 4 := by simp [spC]
def o8 (n : Nat) : List (BitVec 8) := List.replicate n 0
theorem o8_len (n : Nat) : (o8 n).length = n := by simp [o8]
theorem may_funK (n : Int) : Fun Tryz.prog Gs 265 [Enc.enc n] (.i (if n < 0 then 1 else if 1048576 < n then 3 else 0)) := by
  refine Fun_cc [] mo Tryz.func265 (by decide) cc265 rs265 Tryz.ntmps265 (by simp) ?_
  refine AW_run CtOK_nil 1000 ?_
  by_cases h1 : n < 0
  · simp (maxSteps := 10000000) (disch := omega) only [go_sem, c265, h1, reduceIte, seval, -BitVec.isValue, -BitVec.reduceOfNat, -List.reduceReplicate]
  · by_cases h2 : 1048576 < n
    · simp (maxSteps := 10000000) (disch := omega) only [go_sem, c265, h1, h2, reduceIte, seval, -BitVec.isValue, -BitVec.reduceOfNat, -List.reduceReplicate]
    · simp (maxSteps := 10000000) (disch := omega) only [go_sem, c265, h1, h2, reduceIte, seval, -BitVec.isValue, -BitVec.reduceOfNat, -List.reduceReplicate]
def ctMayK : Nat × (List AV → R) := (265, A1 fun n : Int => (True, .i (if n < 0 then 1 else if 1048576 < n then 3 else 0)))
theorem ctMayK_ok {Ct : List (Nat × (List AV → R))} (h : CtOK Tryz.prog Gs Ct) : CtOK Tryz.prog Gs (ctMayK :: Ct) := CtOK_cons (Row1 fun n _ => may_funK n) h
def noneR : AV → R
  | .nilp => (True, .b true)
  | .rop fr cs => match cs with
    | [] => (False, .junk)
    | x :: _ => match x with
      | .b m => (fr = false, .b (!m))
      | _ => (False, .junk)
  | _ => (False, .junk)
theorem none_nil : Fun Tryz.prog Gs 278 [.nilp] (.b true) := by
  refine Fun_cc [] mo Tryz.func278 (by decide) cc278 rs278 Tryz.ntmps278 (by simp) ?_
  refine AW_run CtOK_nil 1000 ?_
  simp (maxSteps := 10000000) (disch := omega) only [go_sem, c278, reduceIte, seval, -BitVec.isValue, -BitVec.reduceOfNat, -List.reduceReplicate]
theorem none_ptr (m : Bool) (cs : List AV) : Fun Tryz.prog Gs 278 [.rop false (.b m :: cs)] (.b (!m)) := by
  refine Fun_cc [] mo Tryz.func278 (by decide) cc278 rs278 Tryz.ntmps278 (by simp) ?_
  refine AW_run CtOK_nil 1000 ?_
  simp (maxSteps := 10000000) (disch := omega) only [go_sem, c278, reduceIte, seval, -BitVec.isValue, -BitVec.reduceOfNat, -List.reduceReplicate]
def noneT : List AV → R
  | [] => (False, .junk)
  | x :: xs => match xs with
    | [] => noneR x
    | _ :: _ => (False, .junk)
def ctNone : Nat × (List AV → R) := (278, noneT)
theorem none_row : Row Tryz.prog Gs 278 noneT := by
  intro l hl
  match l, hl with
  | [x], hl =>
    cases x <;> simp only [noneT, noneR] at hl ⊢ <;> try exact hl.elim
    case nilp => exact none_nil
    case rop fr cs =>
      match cs, hl with
      | .b m :: cs, hl =>
        simp only at hl ⊢
        subst hl
        exact none_ptr m cs
theorem ctNone_ok {Ct : List (Nat × (List AV → R))} (h : CtOK Tryz.prog Gs Ct) : CtOK Tryz.prog Gs (ctNone :: Ct) := CtOK_cons none_row h
attribute [go_sem] noneT
attribute [go_sem] noneR
theorem started_funG (r : Nat) (ps : List (List (BitVec 8))) (hr0 : 0 < r) (hr : r ≤ 200) (hp : ps.length ≤ 140737488351232) (hq : ∀ x ∈ ps, x.length ≤ 140737488351232) :
    FunG Tryz.prog Gs 277 [Enc.enc (r : Int), Enc.enc ps] [] (.ptr 0 0) [(0, ⟨spC (some (true, 0)) (takes0 r 31 ps.flatten) r 0, true⟩)] := by
  refine FunG_cc [] [] 0 mo Tryz.func277 (by decide) cc277 rs277 Tryz.ntmps277 (by simp) rfl (by simp) rfl ?_
  refine AW_run CtOK_nil 1000 ?_
  have hl : (takesS z0 r 0 31 ps.flatten).length = 25 := takes0_len hr0
  simp (maxSteps := 10000000) (disch := omega) only [go_sem, c277, reduceIte, seval, -BitVec.isValue, -BitVec.reduceOfNat, -List.reduceReplicate]
  refine AW_callG [(0, 0)] [] 1 [] false (by simp only [go_sem, reduceIte, seval, -BitVec.isValue, -BitVec.reduceOfNat, -List.reduceReplicate]) (by simp only [go_sem, reduceIte, seval, -BitVec.isValue, -BitVec.reduceOfNat, -List.reduceReplicate]) (takes_s true 0 z0 r 0 31 ps rfl hr0 hr hp hq) (by rfl) (.inr rfl) (by simp only [go_sem, reduceIte, seval, -BitVec.isValue, -BitVec.reduceOfNat, -List.reduceReplicate]) (by rfl) (by simp only [go_sem, spO, reduceIte, seval, -BitVec.isValue, -BitVec.reduceOfNat, -List.reduceReplicate]) (by simp only [go_sem, spC0s, spCs_len, hl, List.length_cons, List.length_nil, reduceIte, seval, -BitVec.isValue, -BitVec.reduceOfNat, -List.reduceReplicate]; try simp) (by simp only [go_sem, reduceIte, seval, -BitVec.isValue, -BitVec.reduceOfNat, -List.reduceReplicate]) (by simp only [go_sem, spC, reduceIte, seval, -BitVec.isValue, -BitVec.reduceOfNat, -List.reduceReplicate]) ?_
  refine AW_run CtOK_nil 1000 ?_
  simp (maxSteps := 10000000) (disch := omega) only [go_sem, spC, reduceIte, seval, -BitVec.isValue, -BitVec.reduceOfNat, -List.reduceReplicate]
  simp [takes0]
theorem Shake128_funG (ps : List (List (BitVec 8))) (hp : ps.length ≤ 140737488351232) (hq : ∀ x ∈ ps, x.length ≤ 140737488351232) :
    FunG Tryz.prog Gs 266 [Enc.enc ps] [] (.ptr 0 0) [(0, ⟨spC (some (true, 0)) (takes0 168 31 ps.flatten) 168 0, true⟩)] := by
  refine FunG_cc [] [] 0 mo Tryz.func266 (by decide) cc266 rs266 Tryz.ntmps266 (by simp) rfl (by simp) rfl ?_
  refine AW_run CtOK_nil 1000 ?_
  simp (maxSteps := 10000000) (disch := omega) only [go_sem, c266, reduceIte, seval, -BitVec.isValue, -BitVec.reduceOfNat, -List.reduceReplicate]
  refine AW_callG [] [(0, 0)] 1 [] false (by simp only [go_sem, reduceIte, seval, -BitVec.isValue, -BitVec.reduceOfNat, -List.reduceReplicate]) (by simp only [go_sem, reduceIte, seval, -BitVec.isValue, -BitVec.reduceOfNat, -List.reduceReplicate]) (started_funG 168 ps (by omega) (by omega) hp hq) (by rfl) (.inr rfl) (by simp only [go_sem, reduceIte, seval, -BitVec.isValue, -BitVec.reduceOfNat, -List.reduceReplicate]) (by rfl) (by simp only [go_sem, reduceIte, seval, -BitVec.isValue, -BitVec.reduceOfNat, -List.reduceReplicate]; try simp) (by simp only [go_sem, reduceIte, seval, -BitVec.isValue, -BitVec.reduceOfNat, -List.reduceReplicate]) (by simp only [go_sem, reduceIte, seval, -BitVec.isValue, -BitVec.reduceOfNat, -List.reduceReplicate]) (by simp only [go_sem, spC, reduceIte, seval, -BitVec.isValue, -BitVec.reduceOfNat, -List.reduceReplicate]) ?_
  refine AW_run CtOK_nil 1000 ?_
  simp (maxSteps := 10000000) (disch := omega) only [go_sem, spC, reduceIte, seval, -BitVec.isValue, -BitVec.reduceOfNat, -List.reduceReplicate]
theorem Shake256_funG (ps : List (List (BitVec 8))) (hp : ps.length ≤ 140737488351232) (hq : ∀ x ∈ ps, x.length ≤ 140737488351232) :
    FunG Tryz.prog Gs 268 [Enc.enc ps] [] (.ptr 0 0) [(0, ⟨spC (some (true, 0)) (takes0 136 31 ps.flatten) 136 0, true⟩)] := by
  refine FunG_cc [] [] 0 mo Tryz.func268 (by decide) cc268 rs268 Tryz.ntmps268 (by simp) rfl (by simp) rfl ?_
  refine AW_run CtOK_nil 1000 ?_
  simp (maxSteps := 10000000) (disch := omega) only [go_sem, c268, reduceIte, seval, -BitVec.isValue, -BitVec.reduceOfNat, -List.reduceReplicate]
  refine AW_callG [] [(0, 0)] 1 [] false (by simp only [go_sem, reduceIte, seval, -BitVec.isValue, -BitVec.reduceOfNat, -List.reduceReplicate]) (by simp only [go_sem, reduceIte, seval, -BitVec.isValue, -BitVec.reduceOfNat, -List.reduceReplicate]) (started_funG 136 ps (by omega) (by omega) hp hq) (by rfl) (.inr rfl) (by simp only [go_sem, reduceIte, seval, -BitVec.isValue, -BitVec.reduceOfNat, -List.reduceReplicate]) (by rfl) (by simp only [go_sem, reduceIte, seval, -BitVec.isValue, -BitVec.reduceOfNat, -List.reduceReplicate]; try simp) (by simp only [go_sem, reduceIte, seval, -BitVec.isValue, -BitVec.reduceOfNat, -List.reduceReplicate]) (by simp only [go_sem, reduceIte, seval, -BitVec.isValue, -BitVec.reduceOfNat, -List.reduceReplicate]) (by simp only [go_sem, spC, reduceIte, seval, -BitVec.isValue, -BitVec.reduceOfNat, -List.reduceReplicate]) ?_
  refine AW_run CtOK_nil 1000 ?_
  simp (maxSteps := 10000000) (disch := omega) only [go_sem, spC, reduceIte, seval, -BitVec.isValue, -BitVec.reduceOfNat, -List.reduceReplicate]
theorem Read_ok (c : Int) (s : La) (r a : Nat) (n : Nat) (hn : n ≤ 1048576) (hs : s.length = 25 ∧ a ≤ r) (hr0 : 0 < r) (hr : r ≤ 200) (hc : 0 ≤ c ∧ c ≤ 1000000000000) :
    FunG Tryz.prog Gs 267 [.ptr 0 0, Enc.enc (n : Int)] [(0, ⟨spC (some (true, c)) s r a, false⟩)] (.tup [.sl 1 0 n 1, .i 0])
      [(0, ⟨spC (some (true, c + n)) (gS r (s, a) n).1 r (gS r (s, a) n).2, false⟩), (1, ⟨(gO r (s, a) n).map .u8, true⟩)] := by
  refine FunG_cc [ctNone, ctMayK] [0] 1 mo Tryz.func267 (by decide) cc267 rs267 Tryz.ntmps267 (by simp) rfl (by decide) rfl ?_
  refine AW_run (ctNone_ok (ctMayK_ok CtOK_nil)) 1000 ?_
  have h1 : ¬ ((n : Int) < 0) := by omega
  have h2 : ¬ ((1048576 : Int) < n) := by omega
  simp (maxSteps := 10000000) (disch := omega) only [go_sem, c267, ctNone, ctMayK, spC, h1, h2, reduceIte, seval, -BitVec.isValue, -BitVec.reduceOfNat, -List.reduceReplicate]
  have hg := gS_ok (r := r) (st := (s, a)) hr0 hs n
  have hgl := hg.1
  have hsl := hs.1
  refine AW_callG [(0, 0), (1, 1)] [] 2 [] false (by simp only [go_sem, reduceIte, seval, -BitVec.isValue, -BitVec.reduceOfNat, -List.reduceReplicate]) (by simp only [go_sem, reduceIte, seval, -BitVec.isValue, -BitVec.reduceOfNat, -List.reduceReplicate]) (gives_s true c r (s, a) (o8 n) hs hr0 hr (by rw [o8_len]; omega)) (by rfl) (.inr rfl) (by simp only [go_sem, reduceIte, seval, -BitVec.isValue, -BitVec.reduceOfNat, -List.reduceReplicate]) (by rfl) (by simp only [go_sem, spO, o8_len, reduceIte, seval, -BitVec.isValue, -BitVec.reduceOfNat, -List.reduceReplicate]) (by simp only [go_sem, spC, o8, hgl, hsl, gO_len, o8_len, List.length_append, List.length_map, List.length_cons, List.length_nil, List.length_replicate, reduceIte, seval, -BitVec.isValue, -BitVec.reduceOfNat, -List.reduceReplicate]; try simp [hgl, hsl, gO_len, o8_len]) (by simp only [go_sem, reduceIte, seval, -BitVec.isValue, -BitVec.reduceOfNat, -List.reduceReplicate]) (by simp only [go_sem, spC, reduceIte, seval, -BitVec.isValue, -BitVec.reduceOfNat, -List.reduceReplicate]) ?_
  refine AW_run (ctNone_ok (ctMayK_ok CtOK_nil)) 1000 ?_
  simp (maxSteps := 10000000) (disch := omega) only [go_sem, spC, o8_len, gA, gB, gC, sA, sB, sC, tA, tB', dC, tC, hgl, List.set_cons_zero, List.set_cons_succ, List.getD_cons_zero, List.getD_cons_succ, List.length_map, List.length_append, reduceIte, seval, -BitVec.isValue, -BitVec.reduceOfNat, -List.reduceReplicate]
  trace_state
end Go.Lv
namespace Go.Lv
open Go Go.Proofs
set_option linter.unusedSimpArgs false
set_option maxRecDepth 100000
def rateS (bits : Int) : Nat := if bits = 128 then 168 else 136
def shakeS (bits : Int) (n : Nat) (text : List (BitVec 8)) : List (BitVec 8) := sha3S (rateS bits) 31 n text
theorem shakeS_len (bits : Int) (n : Nat) (text : List (BitVec 8)) : (shakeS bits n text).length = n := gO_len _ _ _
def ShakeR (bits n : Int) (text : List (BitVec 8)) : AV :=
  if bits = 128 ∨ bits = 256 then (if n < 0 then .tup [.ros true 0 [], .i 1] else if 1048576 < n then .tup [.ros true 0 [], .i 3] else .tup [Enc.ret (shakeS bits n.toNat text), .i 0]) else .tup [.ros true 0 [], .i 1]
set_option maxHeartbeats 1000000 in
theorem Shake_fun (bits n : Int) (ps : List (List (BitVec 8))) (hp : ps.length ≤ 140737488351232) (hq : ∀ x ∈ ps, x.length ≤ 140737488351232) : Fun Tryz.prog Gs 239 [Enc.enc bits, Enc.enc n, Enc.enc ps] (ShakeR bits n ps.flatten) := by
  refine Fun_cc [ctMayK] mo Tryz.func239 (by decide) cc239 rs239 Tryz.ntmps239 (by simp) ?_
  have hct := ctMayK_ok CtOK_nil
  refine AW_run hct 1000 ?_
  unfold ShakeR
  by_cases hb : bits = 128 ∨ bits = 256
  · rw [if_pos hb]
    by_cases h1 : n < 0
    · rcases hb with rfl | rfl <;> simp (maxSteps := 10000000) (disch := omega) only [go_sem, c239, ctMayK, h1, reduceIte, seval, -BitVec.isValue, -BitVec.reduceOfNat, -List.reduceReplicate]
    · by_cases h2 : 1048576 < n
      · rcases hb with rfl | rfl <;> simp (maxSteps := 10000000) (disch := omega) only [go_sem, c239, ctMayK, h1, h2, reduceIte, seval, -BitVec.isValue, -BitVec.reduceOfNat, -List.reduceReplicate]
      · obtain ⟨m, rfl⟩ := Int.eq_ofNat_of_zero_le (show 0 ≤ n by omega)
        rcases hb with rfl | rfl
        · simp (maxSteps := 10000000) (disch := omega) only [go_sem, c239, ctMayK, h1, h2, reduceIte, seval, -BitVec.isValue, -BitVec.reduceOfNat, -List.reduceReplicate]
          refine AW_callG [] [(0, 0)] 1 [] false (by simp only [go_sem, reduceIte, seval, -BitVec.isValue, -BitVec.reduceOfNat, -List.reduceReplicate]) (by simp only [go_sem, reduceIte, seval, -BitVec.isValue, -BitVec.reduceOfNat, -List.reduceReplicate]) (Shake128_funG ps hp hq) (by rfl) (.inr rfl) (by simp only [go_sem, reduceIte, seval, -BitVec.isValue, -BitVec.reduceOfNat, -List.reduceReplicate]) (by rfl) (by simp only [go_sem, reduceIte, seval, -BitVec.isValue, -BitVec.reduceOfNat, -List.reduceReplicate]; try simp) (by simp only [go_sem, reduceIte, seval, -BitVec.isValue, -BitVec.reduceOfNat, -List.reduceReplicate]) (by simp only [go_sem, reduceIte, seval, -BitVec.isValue, -BitVec.reduceOfNat, -List.reduceReplicate]) (by simp only [go_sem, spC, reduceIte, seval, -BitVec.isValue, -BitVec.reduceOfNat, -List.reduceReplicate]) ?_
          refine AW_ct [ctMayK] (AW_run hct 1000 ?_)
          simp (maxSteps := 10000000) (disch := omega) only [go_sem, spC, reduceIte, seval, -BitVec.isValue, -BitVec.reduceOfNat, -List.reduceReplicate]
          have hl := takes0_len (r := 168) (e := 31) (text := ps.flatten) (by omega)
          have hg := gO_len 168 (takes0 168 31 ps.flatten, 0) m
          have htk : (gO 168 (takes0 168 31 ps.flatten, 0) m).take m = gO 168 (takes0 168 31 ps.flatten, 0) m := List.take_of_length_le (by omega)
          refine AW_callG [(0, 0)] [(1, 1)] 2 [] false (by simp only [go_sem, reduceIte, seval, -BitVec.isValue, -BitVec.reduceOfNat, -List.reduceReplicate]) (by simp only [go_sem, reduceIte, seval, -BitVec.isValue, -BitVec.reduceOfNat, -List.reduceReplicate]) (Read_ok 0 (takes0 168 31 ps.flatten) 168 0 m (by omega) ⟨hl, by omega⟩ (by omega) (by omega) (by omega)) (by rfl) (.inr rfl) (by simp only [go_sem, reduceIte, seval, -BitVec.isValue, -BitVec.reduceOfNat, -List.reduceReplicate]) (by rfl) (by simp only [go_sem, reduceIte, seval, -BitVec.isValue, -BitVec.reduceOfNat, -List.reduceReplicate]) (by simp only [go_sem, spC, hl, (gS_ok (r := 168) (st := (takes0 168 31 ps.flatten, 0)) (by omega) ⟨hl, by simp⟩ m).1, List.length_append, List.length_map, List.length_cons, List.length_nil, reduceIte, seval, -BitVec.isValue, -BitVec.reduceOfNat, -List.reduceReplicate]; try simp) (by simp only [go_sem, reduceIte, seval, -BitVec.isValue, -BitVec.reduceOfNat, -List.reduceReplicate]) (by simp only [go_sem, spC, reduceIte, seval, -BitVec.isValue, -BitVec.reduceOfNat, -List.reduceReplicate]) ?_
          refine AW_ct [ctMayK] (AW_run hct 1000 ?_)
          simp (maxSteps := 10000000) (disch := omega) only [go_sem, spC, reduceIte, seval, -BitVec.isValue, -BitVec.reduceOfNat, -List.reduceReplicate]
          have e : shakeS 128 m ps.flatten = gO 168 (takes0 168 31 ps.flatten, 0) m := by simp only [shakeS, sha3S, rateS]; rfl
          rw [htk, e, hg]
        · simp (maxSteps := 10000000) (disch := omega) only [go_sem, c239, ctMayK, h1, h2, reduceIte, seval, -BitVec.isValue, -BitVec.reduceOfNat, -List.reduceReplicate]
          refine AW_callG [] [(0, 0)] 1 [] false (by simp only [go_sem, reduceIte, seval, -BitVec.isValue, -BitVec.reduceOfNat, -List.reduceReplicate]) (by simp only [go_sem, reduceIte, seval, -BitVec.isValue, -BitVec.reduceOfNat, -List.reduceReplicate]) (Shake256_funG ps hp hq) (by rfl) (.inr rfl) (by simp only [go_sem, reduceIte, seval, -BitVec.isValue, -BitVec.reduceOfNat, -List.reduceReplicate]) (by rfl) (by simp only [go_sem, reduceIte, seval, -BitVec.isValue, -BitVec.reduceOfNat, -List.reduceReplicate]; try simp) (by simp only [go_sem, reduceIte, seval, -BitVec.isValue, -BitVec.reduceOfNat, -List.reduceReplicate]) (by simp only [go_sem, reduceIte, seval, -BitVec.isValue, -BitVec.reduceOfNat, -List.reduceReplicate]) (by simp only [go_sem, spC, reduceIte, seval, -BitVec.isValue, -BitVec.reduceOfNat, -List.reduceReplicate]) ?_
          refine AW_ct [ctMayK] (AW_run hct 1000 ?_)
          simp (maxSteps := 10000000) (disch := omega) only [go_sem, spC, reduceIte, seval, -BitVec.isValue, -BitVec.reduceOfNat, -List.reduceReplicate]
          have hl := takes0_len (r := 136) (e := 31) (text := ps.flatten) (by omega)
          have hg := gO_len 136 (takes0 136 31 ps.flatten, 0) m
          have htk : (gO 136 (takes0 136 31 ps.flatten, 0) m).take m = gO 136 (takes0 136 31 ps.flatten, 0) m := List.take_of_length_le (by omega)
          refine AW_callG [(0, 0)] [(1, 1)] 2 [] false (by simp only [go_sem, reduceIte, seval, -BitVec.isValue, -BitVec.reduceOfNat, -List.reduceReplicate]) (by simp only [go_sem, reduceIte, seval, -BitVec.isValue, -BitVec.reduceOfNat, -List.reduceReplicate]) (Read_ok 0 (takes0 136 31 ps.flatten) 136 0 m (by omega) ⟨hl, by omega⟩ (by omega) (by omega) (by omega)) (by rfl) (.inr rfl) (by simp only [go_sem, reduceIte, seval, -BitVec.isValue, -BitVec.reduceOfNat, -List.reduceReplicate]) (by rfl) (by simp only [go_sem, reduceIte, seval, -BitVec.isValue, -BitVec.reduceOfNat, -List.reduceReplicate]) (by simp only [go_sem, spC, hl, (gS_ok (r := 136) (st := (takes0 136 31 ps.flatten, 0)) (by omega) ⟨hl, by simp⟩ m).1, List.length_append, List.length_map, List.length_cons, List.length_nil, reduceIte, seval, -BitVec.isValue, -BitVec.reduceOfNat, -List.reduceReplicate]; try simp) (by simp only [go_sem, reduceIte, seval, -BitVec.isValue, -BitVec.reduceOfNat, -List.reduceReplicate]) (by simp only [go_sem, spC, reduceIte, seval, -BitVec.isValue, -BitVec.reduceOfNat, -List.reduceReplicate]) ?_
          refine AW_ct [ctMayK] (AW_run hct 1000 ?_)
          simp (maxSteps := 10000000) (disch := omega) only [go_sem, spC, reduceIte, seval, -BitVec.isValue, -BitVec.reduceOfNat, -List.reduceReplicate]
          have e : shakeS 256 m ps.flatten = gO 136 (takes0 136 31 ps.flatten, 0) m := by simp only [shakeS, sha3S, rateS]; rfl
          rw [htk, e, hg]
  · rw [if_neg hb]
    have h1 : ¬ bits = 128 := fun h => hb (.inl h)
    have h2 : ¬ bits = 256 := fun h => hb (.inr h)
    simp (maxSteps := 10000000) (disch := omega) only [go_sem, c239, ctMayK, h1, h2, reduceIte, seval, -BitVec.isValue, -BitVec.reduceOfNat, -List.reduceReplicate]
def bbOK (ps : List (List (BitVec 8))) : Prop := ps.length ≤ 140737488351232 ∧ ∀ x ∈ ps, x.length ≤ 140737488351232
def ctShake : Nat × (List AV → R) := (239, A3 fun (b n : Int) (ps : List (List (BitVec 8))) => (bbOK ps, ShakeR b n ps.flatten))
theorem ctShake_ok {Ct : List (Nat × (List AV → R))} (h : CtOK Tryz.prog Gs Ct) : CtOK Tryz.prog Gs (ctShake :: Ct) := CtOK_cons (Row3 fun b n ps h => Shake_fun b n ps h.1 h.2) h
end Go.Lv
namespace Go.Lv
open Go Go.Proofs
set_option linter.unusedSimpArgs false
set_option maxRecDepth 100000
def σJ (ps : List (List (BitVec 8))) (k : Nat) : St := ⟨[(3, .sl 0 0 (ps.take k).flatten.length 1), (7, Enc.enc ps), (8, .i ps.length), (9, .i k)], [(0, ⟨(ps.take k).flatten.map .u8, true⟩)], 1⟩
theorem take_flat (ps : List (List (BitVec 8))) (k : Nat) (h : k < ps.length) : (ps.take (k + 1)).flatten = (ps.take k).flatten ++ ps.getD k [] := by
  rw [List.take_succ_eq_append_getElem h, List.flatten_append]; simp [List.getD_eq_getElem?_getD, h]
theorem take_flat_le (ps : List (List (BitVec 8))) (k : Nat) : (ps.take k).flatten.length ≤ ps.flatten.length := by
  conv => rhs; rw [← List.take_append_drop k ps, List.flatten_append, List.length_append]
  omega
theorem Join_funG (ps : List (List (BitVec 8))) (h0 : ps.length ≤ 140737488351232) (h : ps.flatten.length ≤ 140737488351232) : FunG Tryz.prog Gs 69 [Enc.enc ps] [] (.sl 0 0 ps.flatten.length 1) [(0, ⟨ps.flatten.map .u8, true⟩)] := by
  refine FunG_cc [] [] 0 mo Tryz.func69 (by decide) cc69 rs69 Tryz.ntmps69 (by simp) rfl (by simp) rfl ?_
  refine AW_run CtOK_nil 1000 ?_
  simp (maxSteps := 10000000) (disch := omega) only [go_sem, c69, reduceIte, seval, -BitVec.isValue, -BitVec.reduceOfNat, -List.reduceReplicate]
  refine AW_loop (σJ ps) (fun k => k ≤ ps.length) (fun k => ps.length - k) 0 (Nat.zero_le _) (Wk_d [] (by simp) ?_) fun k hk => ?_
  · simp only [go_sem, σJ, reduceIte, seval, -BitVec.isValue, -BitVec.reduceOfNat, -List.reduceReplicate]
    simp
  · refine AW_run CtOK_nil 1000 ?_
    simp (maxSteps := 10000000) (disch := omega) only [go_sem, σJ, reduceIte, seval, -BitVec.isValue, -BitVec.reduceOfNat, -List.reduceReplicate]
    refine run_br (fun hb => ?_) (fun hb => ?_)
    · have hlt : k < ps.length := by have := of_decide_eq_true hb; omega
      have hf := take_flat ps k hlt
      have hle := take_flat_le ps (k + 1)
      have hl := congrArg List.length hf
      rw [List.length_append] at hl
      simp (maxSteps := 10000000) (disch := omega) only [go_sem, reduceIte, seval, -BitVec.isValue, -BitVec.reduceOfNat, -List.reduceReplicate]
      refine ⟨k + 1, by omega, Wk_d [(0, 1)] (by simp) ?_, by omega⟩
      simp only [go_sem, reduceIte, seval, -BitVec.isValue, -BitVec.reduceOfNat, -List.reduceReplicate]
      simp [hf]
    · have hge : k = ps.length := by have := of_decide_eq_false hb; omega
      subst hge
      simp (maxSteps := 10000000) (disch := omega) only [go_sem, reduceIte, seval, -BitVec.isValue, -BitVec.reduceOfNat, -List.reduceReplicate]
      try simp
theorem Join_fun (ps : List (List (BitVec 8))) (h0 : ps.length ≤ 140737488351232) (h : ps.flatten.length ≤ 140737488351232) : Fun Tryz.prog Gs 69 [Enc.enc ps] (Enc.ret ps.flatten) :=
  Fun_of_FunG (Join_funG ps h0 h) (by simp only [go_sem, reduceIte, seval, -BitVec.isValue, -BitVec.reduceOfNat, -List.reduceReplicate])
def ctJoin : Nat × (List AV → R) := (69, A1 fun ps : List (List (BitVec 8)) => (ps.length ≤ 140737488351232 ∧ ps.flatten.length ≤ 140737488351232, Enc.ret ps.flatten))
theorem ctJoin_ok {Ct : List (Nat × (List AV → R))} (h : CtOK Tryz.prog Gs Ct) : CtOK Tryz.prog Gs (ctJoin :: Ct) := CtOK_cons (Row1 fun ps h => Join_fun ps h.1 h.2) h
theorem gS_add (r : Nat) (st : La × Nat) (a : Nat) : ∀ b, gS r (gS r st a) b = gS r st (a + b)
  | 0 => rfl
  | b + 1 => by rw [← Nat.add_assoc]; simp only [gS, gS_add r st a b]
theorem gO_add (r : Nat) (st : La × Nat) (a b : Nat) : gO r st (a + b) = gO r st a ++ gO r (gS r st a) b := by
  simp only [gO, List.range_add, List.map_append, List.map_map]
  congr 1
  apply List.map_congr_left
  intro i _
  simp only [Function.comp, gBy, gS_add]
end Go.Lv
