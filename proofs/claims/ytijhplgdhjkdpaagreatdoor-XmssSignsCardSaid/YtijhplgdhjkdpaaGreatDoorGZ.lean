/- A part of the proof (GZ). -/
import Derived.Test.YtijhplgdhjkdpaaGreatDoorGS
import Derived.Test.YtijhplgdhjkdpaaGreatDoorGT
import Derived.Test.YtijhplgdhjkdpaaGreatDoorGW
import Derived.Test.YtijhplgdhjkdpaaGreatDoorGU
import Derived.Test.YtijhplgdhjkdpaaGreatDoorFE
import Derived.Test.YtijhplgdhjkdpaaGreatDoorGK
set_option linter.all false
namespace Go.Lv
open Go Go.Proofs
set_option linter.unusedSimpArgs false
set_option maxRecDepth 100000

/-! ## A set's sum -/
def hsumS (sh : Bool) (n : Nat) (t : List (BitVec 8)) : List (BitVec 8) := if sh then shakeS 256 n t else (sha256S t).take n
theorem hsumS_len (sh : Bool) (n : Nat) (t : List (BitVec 8)) (hn : n ≤ 32) : (hsumS sh n t).length = n := by
  unfold hsumS
  split
  · exact shakeS_len _ _ _
  · rw [List.length_take, sha256S_len]; omega
/-- the sum by a set -/
def hO (o : Ots) (t : List (BitVec 8)) : List (BitVec 8) := hsumS o.shake o.n.toNat t
theorem hO_len {o : Ots} (ho : OtsOK o) (t : List (BitVec 8)) : ((hO o t).length : Int) = o.n := by
  have := ho.n
  rw [hO, hsumS_len _ _ _ (by omega)]; omega
def HashR (o : Ots) (t : List (BitVec 8)) : AV := if otsT o.code = some o then Enc.ret (hO o t) else .ros true 0 []
/-! ## LmotsHashes -/
def σlh (code : BitVec 32) (ps : List (List (BitVec 8))) (k : Nat) : St := ⟨[(0, .u32 code), (1, Enc.enc ps), (5, .i (ps.take k).flatten.length), (18, Enc.enc ps), (19, .i ps.length), (20, .i k)], [], 0⟩
theorem setS_ok (code : BitVec 32) : OtsOK (setS code) := by
  unfold setS
  split
  · exact otsT_ok (by assumption)
  · exact ⟨.inr (.inr (.inl rfl)), .inr rfl, ⟨by simp, by simp⟩, ⟨by simp, by simp⟩, by simp, by simp⟩
end Go.Lv

namespace Go.Lv
open Go Go.Proofs
set_option linter.unusedSimpArgs false
set_option maxRecDepth 100000

/-! ## The code's Join -/
def σoj1 (ps : List (List (BitVec 8))) (k : Nat) : St := ⟨[(0, Enc.enc ps), (3, .i (ps.take k).flatten.length), (9, Enc.enc ps), (10, .i ps.length), (11, .i k)], [], 0⟩
def σoj2 (ps : List (List (BitVec 8))) (k : Nat) : St := ⟨[(6, .sl 0 0 (ps.take k).flatten.length 1), (22, Enc.enc ps), (23, .i ps.length), (24, .i k)], [(0, ⟨(ps.take k).flatten.map .u8, true⟩)], 1⟩
set_option maxHeartbeats 1000000 in
theorem OJoin_funG (ps : List (List (BitVec 8))) (h0 : ps.length ≤ 140737488351232) (h : ps.flatten.length ≤ 140737488351232) : FunG Tryz.prog Gs 52 [Enc.enc ps] [] (.sl 0 0 ps.flatten.length 1) [(0, ⟨ps.flatten.map .u8, true⟩)] := by
  refine FunG_cc [] [] 0 mo Tryz.func52 (by decide) cc52 rs52 Tryz.ntmps52 (by simp) rfl (by simp) rfl ?_
  refine AW_run CtOK_nil 1000 ?_
  simp (maxSteps := 10000000) (disch := omega) only [go_sem, c52, reduceIte, seval, -BitVec.isValue, -BitVec.reduceOfNat, -List.reduceReplicate]
  refine AW_loop (σoj1 ps) (fun k => k ≤ ps.length) (fun k => ps.length - k) 0 (Nat.zero_le _) (Wk_d [] (by simp) ?_) fun k hk => ?_
  · simp only [go_sem, σoj1, reduceIte, seval, -BitVec.isValue, -BitVec.reduceOfNat, -List.reduceReplicate]
    try simp
  · refine AW_run CtOK_nil 1000 ?_
    by_cases hd : k < ps.length
    · have hd' : (k : Int) < ps.length := by omega
      have hf := flat_at ps k hd
      have hle := flat_le ps (k + 1)
      have hl := congrArg List.length hf
      rw [List.length_append] at hl
      have e1 : (((ps.take k).flatten.length : Int) + (ps.getD k []).length) = ((ps.take (k + 1)).flatten.length : Nat) := by omega
      simp (maxSteps := 10000000) (disch := omega) only [go_sem, σoj1, hd', reduceIte, seval, -BitVec.isValue, -BitVec.reduceOfNat, -List.reduceReplicate]
      refine ⟨k + 1, by omega, Wk_d [] (by simp) ?_, by omega⟩
      simp only [go_sem, e1, reduceIte, seval, -BitVec.isValue, -BitVec.reduceOfNat, -List.reduceReplicate]
      try simp
    · have hge : k = ps.length := by omega
      subst hge
      have hd' : ¬ ((ps.length : Int) < ps.length) := by omega
      simp (maxSteps := 10000000) (disch := omega) only [go_sem, σoj1, hd', List.take_length, reduceIte, seval, -BitVec.isValue, -BitVec.reduceOfNat, -List.reduceReplicate]
      refine AW_loop (σoj2 ps) (fun k => k ≤ ps.length) (fun k => ps.length - k) 0 (Nat.zero_le _) (Wk_d [] (by simp) ?_) fun k hk => ?_
      · simp only [go_sem, σoj2, reduceIte, seval, -BitVec.isValue, -BitVec.reduceOfNat, -List.reduceReplicate]
        try simp
      · refine AW_run CtOK_nil 1000 ?_
        by_cases hd : k < ps.length
        · have hd' : (k : Int) < ps.length := by omega
          have hf := flat_at ps k hd
          have hle := flat_le ps (k + 1)
          have hl := congrArg List.length hf
          rw [List.length_append] at hl
          simp (maxSteps := 10000000) (disch := omega) only [go_sem, σoj2, hd', reduceIte, seval, -BitVec.isValue, -BitVec.reduceOfNat, -List.reduceReplicate]
          refine ⟨k + 1, by omega, Wk_d [(0, 1)] (by simp) ?_, by omega⟩
          simp only [go_sem, reduceIte, seval, -BitVec.isValue, -BitVec.reduceOfNat, -List.reduceReplicate]
          simp [hf]
        · have hge : k = ps.length := by omega
          subst hge
          have hd' : ¬ ((ps.length : Int) < ps.length) := by omega
          simp (maxSteps := 10000000) (disch := omega) only [go_sem, σoj2, hd', List.take_length, reduceIte, seval, -BitVec.isValue, -BitVec.reduceOfNat, -List.reduceReplicate]
          try simp
theorem OJoin_fun (ps : List (List (BitVec 8))) (h0 : ps.length ≤ 140737488351232) (h : ps.flatten.length ≤ 140737488351232) : Fun Tryz.prog Gs 52 [Enc.enc ps] (Enc.ret ps.flatten) :=
  Fun_of_FunG (OJoin_funG ps h0 h) (by simp only [go_sem, reduceIte, seval, -BitVec.isValue, -BitVec.reduceOfNat, -List.reduceReplicate])
def ctOJoin : Nat × (List AV → R) := (52, A1 fun ps : List (List (BitVec 8)) => (ps.length ≤ 140737488351232 ∧ ps.flatten.length ≤ 140737488351232, Enc.ret ps.flatten))
theorem ctOJoin_ok {Ct : List (Nat × (List AV → R))} (h : CtOK Tryz.prog Gs Ct) : CtOK Tryz.prog Gs (ctOJoin :: Ct) := CtOK_cons (Row1 fun ps h => OJoin_fun ps h.1 h.2) h

/-! ## A leaf -/
def hdS (id : List (BitVec 8)) (q : BitVec 32) : List (BitVec 8) := id ++ bigL (q.setWidth 64) 4
/-! ## Sums of a leaf -/
def leOK (l : Lf) : Prop := otsT l.o.code = some l.o ∧ l.hd.length ≤ 1000
theorem hR {o : Ots} (h : otsT o.code = some o) (t : List (BitVec 8)) : HashR o t = Enc.ret (hO o t) := by rw [HashR, if_pos h]
theorem bb4 (a b c d : List (BitVec 8)) (ha : a.length ≤ 140737488351232) (hb : b.length ≤ 140737488351232) (hc : c.length ≤ 140737488351232) (hd : d.length ≤ 140737488351232) : bbOK [a, b, c, d] := by
  refine ⟨by simp, fun x hx => ?_⟩
  simp only [List.mem_cons, List.not_mem_nil, or_false] at hx
  rcases hx with rfl | rfl | rfl | rfl <;> assumption
theorem bb3 (a b c : List (BitVec 8)) (ha : a.length ≤ 140737488351232) (hb : b.length ≤ 140737488351232) (hc : c.length ≤ 140737488351232) : bbOK [a, b, c] := by
  refine ⟨by simp, fun x hx => ?_⟩
  simp only [List.mem_cons, List.not_mem_nil, or_false] at hx
  rcases hx with rfl | rfl | rfl <;> assumption
theorem u16_of (i : Nat) (h : i < 65536) : (BitVec.ofInt 16 (i : Int)).setWidth 64 = BitVec.ofNat 64 i := by
  apply BitVec.eq_of_toNat_eq
  simp
  omega
theorem preS_len (hd : List (BitVec 8)) (i : Nat) : (preS hd i).length = hd.length + 2 := by simp [preS, bigL_len]
def msgS (H : By → By) (hd c msg : By) : By := H (hd ++ bigL 0x8181#64 2 ++ c ++ msg)
/-! ## Steps of a chain -/
def roB (b : Bool) (x : By) : AV := .ros b x.length (x.map .u8)
@[go_sem] theorem roB_eq (b : Bool) (x : By) : roB b x = .ros b x.length (x.map .u8) := rfl
def σgo (l : Lf) (i f t : Nat) (x : By) (j : Nat) : St := ⟨[(1, .i i), (3, .i t), (4, roB (j != 0) (chn (hO l.o) (preS l.hd i) f j x)), (5, .ptr 0 0), (11, .i ((f + j : Nat) : Int))], [(0, ⟨[.u32 l.o.code, .b l.o.shake, .i l.o.n, .i l.o.w, .i l.o.p, .i l.o.ls, Enc.enc l.hd], true⟩)], 1⟩
end Go.Lv

