/- A part of the proof. -/
import Derived.Test.YtmpfooekljbhhaaDoorGF
import Derived.Test.YtmpfooekljbhhaaDoorGK
set_option linter.all false
namespace Go.Lv
open Go Go.Proofs
set_option linter.unusedSimpArgs false
set_option maxRecDepth 100000

/-! ## Law: chains compose -/
theorem wchR_ok {x : Xms} {b seed : By} {ws : List (BitVec 32)} {f t : Nat} (h : wmayE x [b, seed] = 0) (hf : f + t ≤ 15) : wchR x b (f : Int) (t : Int) seed ws = .tup [Enc.ret (goS x seed ws f t b), .i 0] := by
  have e : wchE x b (f : Int) (t : Int) seed = 0 := by rw [wchE, if_pos h, if_neg (by omega)]
  rw [wchR, if_pos e]; rfl
theorem wchR_no {x : Xms} {b seed : By} {ws : List (BitVec 32)} {f t : Int} (h : ¬ wmayE x [b, seed] = 0) : wchR x b f t seed ws = .tup [.ros true 0 [], .i (wmayE x [b, seed])] := by
  have e : wchE x b f t seed = wmayE x [b, seed] := by rw [wchE, if_neg h]
  rw [wchR, e, if_neg h]
theorem wmayE_mk {x : Xms} {a b : By} (hx : xmsT x.code = some x) (ha : (a.length : Int) = x.n) (hb : (b.length : Int) = x.n) : wmayE x [a, b] = 0 := by
  rw [wmayE, if_pos hx, if_pos]
  intro p hp
  simp only [List.mem_cons, List.not_mem_nil, or_false] at hp
  rcases hp with rfl | rfl <;> assumption
set_option maxHeartbeats 4000000 in
theorem WSteps_fun (x : Xms) (b : By) (from' some' more : BitVec 8) (seed : By) (ws : List (BitVec 32)) (_ : x.ok) (hb : b.length ≤ 140737488351232) (hs : seed.length ≤ 140737488351232) (hw : ws.length = 8) :
    Fun Tryd.prog Gs 4 [Enc.enc x, Enc.enc b, Enc.enc from', Enc.enc some', Enc.enc more, Enc.enc seed, Enc.enc (⟨ws⟩ : Ar (BitVec 32))] (.b true) := by
  have hbb := bb2 b seed hb hs
  have hwt : ws.take 8 = ws := List.take_of_length_le (by omega)
  by_cases hf : fewP [b, seed]
  · obtain ⟨f1, f2⟩ := few2 hf
    have hct := mark_ok 29 (ctWlive_ok (ctFew_ok (ctWChain_ok (ctEqual_ok (CtOK_nil (P := Tryd.prog) (Gl := Gs))))))
    refine Fun_cc [mark 29, ctWlive, ctFew, ctWChain, ctEqual] mo Tryd.func4 (by decide) cc4 rs4 Tryd.ntmps4 (by simp) ?_
    have q1 := from'.isLt
    have q2 := some'.isLt
    have q3 := more.isLt
    obtain ⟨f, hff⟩ : ∃ f : Nat, f = from'.toNat % 16 := ⟨_, rfl⟩
    have hfl : f ≤ 15 := by omega
    obtain ⟨n, hn⟩ : ∃ n : Nat, n = some'.toNat % (16 - f) := ⟨_, rfl⟩
    have hnl : n < 16 - f := by rw [hn]; exact Nat.mod_lt _ (by omega)
    obtain ⟨m, hm⟩ : ∃ m : Nat, m = more.toNat % (16 - f - n) := ⟨_, rfl⟩
    have hml : m < 16 - f - n := by rw [hm]; exact Nat.mod_lt _ (by omega)
    have ef : (from'.toNat : Int) % 16 = (f : Int) := by omega
    have en : (some'.toNat : Int) % (16 - (f : Int)) = (n : Int) := by
      rw [hn, show (16 : Int) - (f : Int) = ((16 - f : Nat) : Int) by omega]; rfl
    have em : (more.toNat : Int) % (16 - (f : Int) - (n : Int)) = (m : Int) := by
      rw [hm, show (16 : Int) - (f : Int) - (n : Int) = ((16 - f - n : Nat) : Int) by omega]; rfl
    have e1 : (f : Int) + (n : Int) = ((f + n : Nat) : Int) := by omega
    have e2 : (n : Int) + (m : Int) = ((n + m : Nat) : Int) := by omega
    by_cases h : wmayE x [b, seed] = 0
    · obtain ⟨hx, hp⟩ := wmayE_zero h
      have h1 := hp b (by simp)
      have h2 := hp seed (by simp)
      have gl := goS_len hx seed ws f n b (by omega)
      have gl2 := goS_len hx seed ws f (n + m) b (by omega)
      have R1 := wchR_ok (ws := ws) h (f := f) (t := n) (by omega)
      have R3 := wchR_ok (ws := ws) h (f := f) (t := n + m) (by omega)
      have hx32 : 0 ≤ x.n ∧ x.n ≤ 32 := by rcases xmsT_n hx with ⟨h, _⟩ | ⟨h, _⟩ <;> omega
      have R2 := wchR_ok (ws := ws) (wmayE_mk hx (a := goS x seed ws f n b) (b := seed) (by omega) h2) (f := f + n) (t := m) (by omega)
      rw [← goS_add] at R2
      obtain ⟨g1, hg1⟩ : ∃ g1, g1 = goS x seed ws f n b := ⟨_, rfl⟩
      obtain ⟨g2, hg2⟩ : ∃ g2, g2 = goS x seed ws f (n + m) b := ⟨_, rfl⟩
      rw [← hg1] at R1 R2 gl
      rw [← hg2] at R2 R3 gl2
      have gl3 : (g2.length : Int) = x.n := by omega
      refine AW_run hct 1000 ?_
      simp (maxSteps := 10000000) (disch := omega) only [go_sem, c4, mark, ctWlive, ctFew, ctWChain, ctEqual, hbb, hf, hw, hwt, Int.tmod_eq_emod_of_nonneg, ef, en, em, e1, e2, R1, R2, R3, gl3, deL_cons, deL_nil, reduceIte, seval, -BitVec.isValue, -BitVec.reduceOfNat, -List.reduceReplicate]
      try simp
    · have R := wchR_no (ws := ws) (f := (f : Int)) (t := (n : Int)) h
      have ho := wmayE_or x [b, seed]
      obtain ⟨e, he⟩ : ∃ e, e = wmayE x [b, seed] := ⟨_, rfl⟩
      rw [← he] at h R ho
      rcases ho with ho | ho | ho
      · exact absurd ho h
      · subst ho
        refine AW_run hct 1000 ?_
        simp (maxSteps := 10000000) (disch := omega) only [go_sem, c4, mark, ctWlive, ctFew, ctWChain, ctEqual, hbb, hf, hw, hwt, Int.tmod_eq_emod_of_nonneg, ef, en, em, e1, e2, R, deL_cons, deL_nil, reduceIte, seval, -BitVec.isValue, -BitVec.reduceOfNat, -List.reduceReplicate]
        try simp
      · subst ho
        refine AW_run hct 1000 ?_
        simp (maxSteps := 10000000) (disch := omega) only [go_sem, c4, mark, ctWlive, ctFew, ctWChain, ctEqual, hbb, hf, hw, hwt, Int.tmod_eq_emod_of_nonneg, ef, en, em, e1, e2, R, deL_cons, deL_nil, reduceIte, seval, -BitVec.isValue, -BitVec.reduceOfNat, -List.reduceReplicate]
        try simp
  · have hct := mark_ok 29 (ctWlive_ok (ctFew_ok (CtOK_nil (P := Tryd.prog) (Gl := Gs))))
    refine Fun_cc _ mo Tryd.func4 (by decide) cc4 rs4 Tryd.ntmps4 (by simp) (AW_run hct 1000 ?_)
    simp (maxSteps := 10000000) (disch := omega) only [go_sem, c4, mark, ctWlive, ctFew, hbb, hf, hw, deL_cons, deL_nil, reduceIte, seval, -BitVec.isValue, -BitVec.reduceOfNat, -List.reduceReplicate]
    try simp
end Go.Lv
