/- A part of the proof. -/
import Derived.Test.YtijhplgdhjkdpaaGreatDoorIh
import Derived.Test.YtijhplgdhjkdpaaGreatDoorIf
import Derived.Test.YtijhplgdhjkdpaaGreatDoorHy
import Derived.Test.YtijhplgdhjkdpaaGreatDoorFp
import Derived.Test.YtijhplgdhjkdpaaGreatDoorGK
set_option linter.all false
namespace Go.Lv
open Go Go.Proofs
set_option linter.unusedSimpArgs false
set_option maxRecDepth 100000

/-! ## What was signed is proved, plainly -/
theorem num_wd4 (i : BitVec 32) : numS (wd4 i) = i.setWidth 64 := by
  have h : wd4 i = [byteAt (i.setWidth 64) 3, byteAt (i.setWidth 64) 2, byteAt (i.setWidth 64) 1, byteAt (i.setWidth 64) 0] := rfl
  rw [h]
  apply BitVec.eq_of_toNat_eq
  have hi := i.isLt
  simp only [numS, List.foldl_cons, List.foldl_nil, byteAt, BitVec.toNat_add, BitVec.toNat_mul, BitVec.toNat_setWidth, BitVec.toNat_ushiftRight, Nat.shiftRight_eq_div_pow, BitVec.toNat_ofNat, show (0 : BitVec 64).toNat = 0 from rfl, show (256 : BitVec 64).toNat = 256 from rfl]
  omega
theorem pub_at {x : Xms} {k : XKey} (h : KOK x k) : (pubXS x k).take 4 = wd4 x.code ∧ pbR x (pubXS x k) = rootS x k ∧ pbS x (pubXS x k) = k.pub ∧ ((pubXS x k).length : Int) = xpubL x := by
  have l1 : (wd4 x.code).length = 4 := bigL_len _ _
  have l2 := rootS_len h
  have l3 := h.b
  have hn := h.n
  refine ⟨?_, ?_, ?_, ?_⟩
  · rw [pubXS, List.append_assoc, List.take_left' l1]
  · rw [pbR, pubXS, List.append_assoc, List.drop_left' l1, List.take_left' l2]
  · rw [pbS, pubXS, List.drop_left' (by rw [List.length_append, l1, l2])]
  · rw [xpubL, if_pos h.ok, pubXS, List.length_append, List.length_append, l1, l2]; omega
theorem sgn_at {x : Xms} {k : XKey} (h : KOK x k) (i : BitVec 32) (msg : By) : (sgnS x k i msg).take 4 = wd4 i ∧ sgR x (sgnS x k i msg) = sgnR x k i ∧ sgO x (sgnS x k i msg) = sgnE x k i msg ∧ sgP x (sgnS x k i msg) = pathS x k.seed k.pub i.toNat ∧ ((sgnS x k i msg).length : Int) = xlenS x := by
  obtain ⟨l1, l2, l3, l4, l5⟩ := sgn_lens h i msg
  have hn := h.n
  have hh := xms_h h.ok
  refine ⟨?_, ?_, ?_, ?_, ?_⟩
  · rw [sgnS, List.append_assoc, List.append_assoc, List.take_left' l1]
  · rw [sgR, sgnS, List.append_assoc, List.append_assoc, List.drop_left' l1, List.take_left' l2]
  · rw [sgO, sgnS, List.append_assoc, List.drop_left' (by rw [List.length_append, l1, l2]), List.take_left' l4]
  · rw [sgP, sgnS, List.drop_left' (by rw [List.length_append, List.length_append, l1, l2, l4])]
  · have q1 : x.h * x.n = ((x.h.toNat * x.n.toNat : Nat) : Int) := by rw [Int.natCast_mul, show (x.h.toNat : Int) = x.h by omega, show (x.n.toNat : Int) = x.n by omega]
    have q2 : x.len * x.n = ((x.len.toNat * x.n.toNat : Nat) : Int) := by rw [Int.natCast_mul, show (x.len.toNat : Int) = x.len by omega, show (x.n.toNat : Int) = x.n by omega]
    rw [xlenS, if_pos h.ok, Int.add_mul, q1, q2, sgnS, List.length_append, List.length_append, List.length_append, l1, l2, l4, l5]; omega
theorem sgI_own {x : Xms} {k : XKey} (h : KOK x k) (i : BitVec 32) (msg : By) : numS ((sgnS x k i msg).take 4) = i.setWidth 64 ∧ sgI (sgnS x k i msg) = i := by
  have h1 := (sgn_at h i msg).1
  have h2 : numS ((sgnS x k i msg).take 4) = i.setWidth 64 := by rw [h1, num_wd4]
  refine ⟨h2, ?_⟩
  rw [sgI, h2]
  exact BitVec.setWidth_setWidth_of_le i (by decide)
theorem came_own {x : Xms} {k : XKey} (h : KOK x k) (i : BitVec 32) (msg : By) (hi : i.toNat < 2 ^ x.h.toNat) (hh : x.h.toNat ≤ 4) : cameS x k.pub (rootS x k) msg (sgnS x k i msg) i = rootS x k := by
  obtain ⟨s1, s2, s3, s4, s5⟩ := sgn_at h i msg
  obtain ⟨l1, l2, l3, l4, l5⟩ := sgn_lens h i msg
  have hn := h.n
  have hM : sgM x (rootS x k) msg (sgnS x k i msg) i = sgnM x k i msg := by rw [sgM, s2]; rfl
  have hE : sgE x k.pub (rootS x k) msg (sgnS x k i msg) i = ends x.len.toNat (endF x k.seed k.pub (adO i) pubN) := by
    rw [sgE, hM, s3]
    exact on_sign h.ok k.seed k.pub (sgnM x k i msg) (adO i) (by omega)
  have hii : BitVec.ofNat 32 i.toNat = i := by simp
  have hlf : ltreeS x k.pub (ends x.len.toNat (endF x k.seed k.pub (adO i) pubN)) i = nodeAt x k.seed k.pub 0 i.toNat := by rw [nodeAt, hii]; rfl
  rw [cameS, hE, s4, hlf]
  exact climb_root h.ok k.seed k.pub i.toNat hi hh
theorem own_all {x : Xms} {k : XKey} {i : BitVec 32} (hml : mlE x k i = 0) (hh : x.h.toNat ≤ 4) (msg : By) : xixR x (sgnS x k i msg) = .tup [.u32 i, .i 0] ∧ vfyE (pubXS x k) msg (sgnS x k i msg) = 0 := by
  obtain ⟨h, hlt⟩ := mlE_lt hml
  obtain ⟨_, hsh⟩ := mlE_zero hml
  obtain ⟨s1, s2, s3, s4, s5⟩ := sgn_at h i msg
  obtain ⟨p1, p2, p3, p4⟩ := pub_at h
  obtain ⟨n1, n2⟩ := sgI_own h i msg
  have hx := h.ok
  have hE : xixE x (sgnS x k i msg) = 0 := by rw [xixE, if_pos hx, if_pos s5, n1, if_neg hsh]
  refine ⟨?_, ?_⟩
  · rw [xixR, if_pos hE]
    have : (numS ((sgnS x k i msg).take 4)).setWidth 32 = i := n2
    rw [this]
  · have hn := h.n
    have hC : pbC (pubXS x k) = x.code := by rw [pbC, p1, num_wd4]; exact BitVec.setWidth_setWidth_of_le _ (by decide)
    have hl : ¬ (pubXS x k).length < 4 := by rw [xpubL, if_pos hx] at p4; omega
    have hc := came_own h i msg hlt hh
    rw [vfyE, if_neg hl, hC, hx]
    simp only [if_pos p4, if_pos hE, p2, p3, n2, if_pos hc]
set_option maxHeartbeats 8000000 in
theorem XOwn_fun (c : BitVec 32) (k : XKey) (i : BitVec 32) (msg : By) (hk : k.ok) (h1 : msg.length ≤ 140737488351232) :
    Fun Tryz.prog Gs 9 [Enc.enc c, Enc.enc k, Enc.enc i, Enc.enc msg] (.b true) := by
  obtain ⟨x, hxe⟩ : ∃ x, x = setX c := ⟨_, rfl⟩
  have hct := ctXSetL_ok (ctXlive_ok (ctHigh_ok (ctRMayLeaf_ok (ctXSign_ok (ctXPublic_ok (ctXIndex_ok (ctXVerify_ok (ctRXLen_ok (ctRXPub_ok (CtOK_nil (P := Tryz.prog) (Gl := Gs)))))))))))
  refine Fun_cc _ mo Tryz.func9 (by decide) cc9 rs9 Tryz.ntmps9 (by simp) (AW_run hct 1000 ?_)
  by_cases hb : highB x = true
  · simp (maxSteps := 10000000) (disch := omega) only [go_sem, c9, ctXSetL, ctXlive, ctHigh, ← hxe, xmC, hb, reduceIte, seval, -BitVec.isValue, -BitVec.reduceOfNat, -List.reduceReplicate]
    try simp
  · have hb' : highB x = false := Bool.eq_false_iff.2 hb
    have hlow := low_of (k := k) hb'
    by_cases hm : msg.length ≤ 3000
    · have hm' : ¬ (3000 : Int) < msg.length := by omega
      by_cases h : mlE x k i = 0
      · obtain ⟨hK, hlt⟩ := mlE_lt h
        have hmk := (mlE_zero h).1
        have hh := hlow hmk
        obtain ⟨s1, s2, s3, s4, s5⟩ := sgn_at hK i msg
        obtain ⟨p1, p2, p3, p4⟩ := pub_at hK
        obtain ⟨o1, o2⟩ := own_all h hh msg
        have hS : xsgR x k i msg = .tup [Enc.ret (sgnS x k i msg), .i 0] := by rw [xsgR, if_pos h]
        have hP : xpuR x k = .tup [Enc.ret (pubXS x k), .i 0] := by rw [xpuR, if_pos hmk]
        simp (maxSteps := 10000000) (disch := omega) only [go_sem, c9, ctXSetL, ctXlive, ctHigh, mlA, ctXSign, ctXPublic, ixA, ctVerify, xlA, xpA, ← hxe, xmC, hk, hb', h, eq_false hm', hlow, hS, hP, o1, o2, s5, p4, reduceIte, seval, -BitVec.isValue, -BitVec.reduceOfNat, -List.reduceReplicate]
        try simp
      · obtain ⟨e, he⟩ : ∃ e, e = mlE x k i := ⟨_, rfl⟩
        have hS : xsgR x k i msg = .tup [.ros true 0 [], .i e] := by rw [xsgR, if_neg h, he]
        rw [← he] at h
        have hl2 : mkE x k = 0 → x.h ≤ 4 := fun q => by have := hlow q; omega
        simp (maxSteps := 10000000) (disch := omega) only [go_sem, c9, ctXSetL, ctXlive, ctHigh, mlA, ctXSign, ← hxe, xmC, hk, hb', ← he, eq_false h, eq_false hm', eq_true hl2, eq_true hlow, hS, reduceIte, seval, -BitVec.isValue, -BitVec.reduceOfNat, -List.reduceReplicate]
        try simp [h]
    · have hm' : (3000 : Int) < msg.length := by omega
      simp (maxSteps := 10000000) (disch := omega) only [go_sem, c9, ctXSetL, ctXlive, ctHigh, ← hxe, xmC, hb', eq_true hm', reduceIte, seval, -BitVec.isValue, -BitVec.reduceOfNat, -List.reduceReplicate]
      try simp
end Go.Lv
