/- A part of the proof. -/
import Derived.Test.YtijhplgdhjkdpaaGreatDoorGI
import Derived.Test.YtijhplgdhjkdpaaGreatDoorGK
set_option linter.all false
namespace Go.Lv
open Go Go.Proofs
set_option linter.unusedSimpArgs false
set_option maxRecDepth 100000

/-! ## What hears of each node, for a path -/
theorem beside32 : ∀ i < 16, ∀ c < 5, (BitVec.ofNat 32 i >>> c) ^^^ 1#32 = BitVec.ofNat 32 ((i / 2 ^ c) ^^^ 1) := by decide +kernel
theorem eq32 {a b : Nat} (ha : a < 1000) (hb : b < 1000) : decide (BitVec.ofNat 32 a = BitVec.ofNat 32 b) = decide (a = b) := by
  refine decide_eq_decide.2 ⟨fun h => ?_, fun h => by rw [h]⟩
  have := congrArg BitVec.toNat h
  rw [BitVec.toNat_ofNat, BitVec.toNat_ofNat] at this
  omega
theorem sib_lt : ∀ i < 16, ∀ c < 5, (i / 2 ^ c) ^^^ 1 < 17 := by decide +kernel
set_option maxHeartbeats 4000000 in
theorem toldW_funG (x : Xms) (k : XKey) (i n c : Nat) (hK : KOK x k) (hi : i < 16) (hn : n < 16) (hc : c < 5) (hh : x.h.toNat ≤ 4) (ho : n % 2 ^ c = 2 ^ c - 1) :
    FunG Tryz.prog Gs 85 [.agg (hC x k (c, n / 2 ^ c)), .ptr 0 0, .ptr 1 0, .ptr 2 0]
      [(0, ⟨xmC x, false⟩), (1, ⟨[.u32 (BitVec.ofNat 32 i)], false⟩), (2, ⟨[.sl 3 0 (x.h.toNat * x.n.toNat) 1], false⟩), (3, ⟨(pathC x k.seed k.pub i n c).map .u8, false⟩)] (.tup [])
      [(0, ⟨xmC x, false⟩), (1, ⟨[.u32 (BitVec.ofNat 32 i)], false⟩), (2, ⟨[.sl 3 0 (x.h.toNat * x.n.toNat) 1], false⟩), (3, ⟨(pathC x k.seed k.pub i n (c + 1)).map .u8, false⟩)] := by
  refine FunG_cc [] [0, 1, 2, 3] 4 mo Tryz.func85 (by decide) cc85 rs85 Tryz.ntmps85 (by simp) rfl (by decide) rfl ?_
  have hx32 := hK.n
  have hH := xms_h hK.ok
  have hpl := pathC_len hK.ok k.seed k.pub i n c
  have hnl := nodeAt_len hK.ok k.seed k.pub c (n / 2 ^ c)
  have hq : n / 2 ^ c < 16 := Nat.lt_of_le_of_lt (Nat.div_le_self _ _) hn
  have hbs := beside32 i hi c hc
  have hbs' : (BitVec.ofNat 32 i >>> c) ^^^ (1 : BitVec 32) = BitVec.ofNat 32 ((i / 2 ^ c) ^^^ 1) := hbs
  have hsl := sib_lt i hi c hc
  have heq := eq32 (a := n / 2 ^ c) (b := (i / 2 ^ c) ^^^ 1) (by omega) (by omega)
  have hn0 := CtOK_nil (P := Tryz.prog) (Gl := Gs)
  have hxn : x.n = (x.n.toNat : Int) := by omega
  have q1 : (c : Int) * x.n = ((c * x.n.toNat : Nat) : Int) := by rw [Int.natCast_mul, ← hxn]
  have hm4 : x.h.toNat * x.n.toNat ≤ 4 * 32 := Nat.mul_le_mul (by omega) (by omega)
  by_cases hcc : c < x.h.toNat
  · have hcc' : (c : Int) < x.h := by omega
    have hcm : c * x.n.toNat + x.n.toNat ≤ x.h.toNat * x.n.toNat := by rw [← Nat.succ_mul]; exact Nat.mul_le_mul_right _ (by omega)
    by_cases he : n / 2 ^ c = (i / 2 ^ c) ^^^ 1
    · have hpt := path_told hK.ok k.seed k.pub hi hn hcc hh ho he
      rw [decide_eq_true he] at heq
      refine AW_run hn0 1000 ?_
      simp (maxSteps := 10000000) (disch := omega) only [go_sem, c85, hC, xmC, hcc', hbs, hbs', heq, reduceIte, seval, -BitVec.isValue, -BitVec.reduceOfNat, -List.reduceReplicate]
      rw [q1, hnl, Int.toNat_natCast, hpt]
    · have hps := path_same k.seed k.pub hi hn hc hh ho (fun h => he h.2)
      rw [decide_eq_false he] at heq
      refine AW_run hn0 1000 ?_
      simp (maxSteps := 10000000) (disch := omega) only [go_sem, c85, hC, xmC, hcc', hbs, hbs', heq, hps, reduceIte, seval, -BitVec.isValue, -BitVec.reduceOfNat, -List.reduceReplicate]
      try simp
  · have hcc' : ¬ (c : Int) < x.h := by omega
    have hps := path_same k.seed k.pub hi hn hc hh ho (fun h => hcc h.1)
    refine AW_run hn0 1000 ?_
    simp (maxSteps := 10000000) (disch := omega) only [go_sem, c85, hC, xmC, eq_false hcc', hps, reduceIte, seval, -BitVec.isValue, -BitVec.reduceOfNat, -List.reduceReplicate]
    try simp
end Go.Lv
