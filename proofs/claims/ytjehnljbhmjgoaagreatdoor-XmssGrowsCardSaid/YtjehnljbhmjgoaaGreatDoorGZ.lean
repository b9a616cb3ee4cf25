/- A part of the proof (GZ). -/
import Derived.Test.YtjehnljbhmjgoaaGreatDoorGS
import Derived.Test.YtjehnljbhmjgoaaGreatDoorGT
import Derived.Test.YtjehnljbhmjgoaaGreatDoorGW
import Derived.Test.YtjehnljbhmjgoaaGreatDoorGU
import Derived.Test.YtjehnljbhmjgoaaGreatDoorGK
import Derived.Test.YtjehnljbhmjgoaaGreatDoorFE
set_option linter.all false
namespace Go.Lv
open Go Go.Proofs
set_option linter.unusedSimpArgs false
set_option maxRecDepth 100000
def hsumS (sh : Bool) (n : Nat) (t : List (BitVec 8)) : List (BitVec 8) := if sh then shakeS 256 n t else (sha256S t).take n
def hO (o : Ots) (t : List (BitVec 8)) : List (BitVec 8) := hsumS o.shake o.n.toNat t
def HashR (o : Ots) (t : List (BitVec 8)) : AV := if otsT o.code = some o then Enc.ret (hO o t) else .ros true 0 []
end Go.Lv
namespace Go.Lv
open Go Go.Proofs
set_option linter.unusedSimpArgs false
set_option maxRecDepth 100000
def σoj1 (ps : List (List (BitVec 8))) (k : Nat) : St := ⟨[(0, Enc.enc ps), (3, .i (ps.take k).flatten.length), (9, Enc.enc ps), (10, .i ps.length), (11, .i k)], [], 0⟩
def σoj2 (ps : List (List (BitVec 8))) (k : Nat) : St := ⟨[(6, .sl 0 0 (ps.take k).flatten.length 1), (22, Enc.enc ps), (23, .i ps.length), (24, .i k)], [(0, ⟨(ps.take k).flatten.map .u8, true⟩)], 1⟩
set_option maxHeartbeats 1000000 in
theorem OJoin_funG (ps : List (List (BitVec 8))) (h0 : ps.length ≤ 140737488351232) (h : ps.flatten.length ≤ 140737488351232) : FunG Tryz.prog Gs 81 [Enc.enc ps] [] (.sl 0 0 ps.flatten.length 1) [(0, ⟨ps.flatten.map .u8, true⟩)] := by
  refine FunG_cc [] [] 0 mo Tryz.func81 (by decide) cc81 rs81 Tryz.ntmps81 (by simp) rfl (by simp) rfl ?_
  refine AW_run CtOK_nil 1000 ?_
  simp (maxSteps := 10000000) (disch := omega) only [go_sem, c81, reduceIte, seval, -BitVec.isValue, -BitVec.reduceOfNat, -List.reduceReplicate]
  refine AW_loop (σoj1 ps) (fun k => k ≤ ps.length) (fun k => ps.length - k) 0 (Nat.zero_le _) (Wk_d [] (by simp) ?_) fun k hk => ?_
  · simp only [go_sem, σoj1, reduceIte, seval, -BitVec.isValue, -BitVec.reduceOfNat, -List.reduceReplicate]
    try simp
  · refine AW_run CtOK_nil 1000 ?_
    by_cases hd : k < ps.length
    · have hd' : (k : Int) < ps.length := by omega
      have hf := flat_at ps k hd
      have hle := flat_le ps (k + 1)
      have hl := congrArg List.length hf
      rw [List.length_append] at hl
      have e1 : (((ps.take k).flatten.length : Int) + (ps.getD k []).length) = ((ps.take (k + 1)).flatten.length : Nat) := by omega
      simp (maxSteps := 10000000) (disch := omega) only [go_sem, σoj1, hd', reduceIte, seval, -BitVec.isValue, -BitVec.reduceOfNat, -List.reduceReplicate]
      refine ⟨k + 1, by omega, Wk_d [] (by simp) ?_, by omega⟩
      simp only [go_sem, e1, reduceIte, seval, -BitVec.isValue, -BitVec.reduceOfNat, -List.reduceReplicate]
      try simp
    · have hge : k = ps.length := by omega
      subst hge
      have hd' : ¬ ((ps.length : Int) < ps.length) := by omega
      simp (maxSteps := 10000000) (disch := omega) only [go_sem, σoj1, hd', List.take_length, reduceIte, seval, -BitVec.isValue, -BitVec.reduceOfNat, -List.reduceReplicate]
      refine AW_loop (σoj2 ps) (fun k => k ≤ ps.length) (fun k => ps.length - k) 0 (Nat.zero_le _) (Wk_d [] (by simp) ?_) fun k hk => ?_
      · simp only [go_sem, σoj2, reduceIte, seval, -BitVec.isValue, -BitVec.reduceOfNat, -List.reduceReplicate]
        try simp
      · refine AW_run CtOK_nil 1000 ?_
        by_cases hd : k < ps.length
        · have hd' : (k : Int) < ps.length := by omega
          have hf := flat_at ps k hd
          have hle := flat_le ps (k + 1)
          have hl := congrArg List.length hf
          rw [List.length_append] at hl
          simp (maxSteps := 10000000) (disch := omega) only [go_sem, σoj2, hd', reduceIte, seval, -BitVec.isValue, -BitVec.reduceOfNat, -List.reduceReplicate]
          refine ⟨k + 1, by omega, Wk_d [(0, 1)] (by simp) ?_, by omega⟩
          simp only [go_sem, reduceIte, seval, -BitVec.isValue, -BitVec.reduceOfNat, -List.reduceReplicate]
          simp [hf]
        · have hge : k = ps.length := by omega
          subst hge
          have hd' : ¬ ((ps.length : Int) < ps.length) := by omega
          simp (maxSteps := 10000000) (disch := omega) only [go_sem, σoj2, hd', List.take_length, reduceIte, seval, -BitVec.isValue, -BitVec.reduceOfNat, -List.reduceReplicate]
          try simp
theorem OJoin_fun (ps : List (List (BitVec 8))) (h0 : ps.length ≤ 140737488351232) (h : ps.flatten.length ≤ 140737488351232) : Fun Tryz.prog Gs 81 [Enc.enc ps] (Enc.ret ps.flatten) :=
  Fun_of_FunG (OJoin_funG ps h0 h) (by simp only [go_sem, reduceIte, seval, -BitVec.isValue, -BitVec.reduceOfNat, -List.reduceReplicate])
def ctOJoin : Nat × (List AV → R) := (81, A1 fun ps : List (List (BitVec 8)) => (ps.length ≤ 140737488351232 ∧ ps.flatten.length ≤ 140737488351232, Enc.ret ps.flatten))
theorem ctOJoin_ok {Ct : List (Nat × (List AV → R))} (h : CtOK Tryz.prog Gs Ct) : CtOK Tryz.prog Gs (ctOJoin :: Ct) := CtOK_cons (Row1 fun ps h => OJoin_fun ps h.1 h.2) h
theorem hR {o : Ots} (h : otsT o.code = some o) (t : List (BitVec 8)) : HashR o t = Enc.ret (hO o t) := by rw [HashR, if_pos h]
theorem bb3 (a b c : List (BitVec 8)) (ha : a.length ≤ 140737488351232) (hb : b.length ≤ 140737488351232) (hc : c.length ≤ 140737488351232) : bbOK [a, b, c] := by
  refine ⟨by simp, fun x hx => ?_⟩
  simp only [List.mem_cons, List.not_mem_nil, or_false] at hx
  rcases hx with rfl | rfl | rfl <;> assumption
def roB (b : Bool) (x : By) : AV := .ros b x.length (x.map .u8)
@[go_sem] theorem roB_eq (b : Bool) (x : By) : roB b x = .ros b x.length (x.map .u8) := rfl
end Go.Lv
