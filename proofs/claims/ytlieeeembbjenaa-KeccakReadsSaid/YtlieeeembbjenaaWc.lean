/- A part of the proof. -/
import Derived.Test.YtlieeeembbjenaaWb
set_option linter.all false
namespace Go.Lv
open Go Go.Proofs
set_option linter.unusedSimpArgs false
set_option maxRecDepth 100000

def A4 {α β γ δ : Type} [Enc α] [Enc β] [Enc γ] [Enc δ] (f : α → β → γ → δ → R) : List AV → R
  | [a, b, c, d] => (Enc.ok α a ∧ Enc.ok β b ∧ Enc.ok γ c ∧ Enc.ok δ d ∧ (f (Enc.dec a) (Enc.dec b) (Enc.dec c) (Enc.dec d)).1, (f (Enc.dec a) (Enc.dec b) (Enc.dec c) (Enc.dec d)).2)
  | _ => (False, .junk)
theorem Row4 {P : Program} {Gl : List (Nat × List AV)} {n : Nat} {α β γ δ : Type} [Enc α] [Enc β] [Enc γ] [Enc δ] {f : α → β → γ → δ → R} (h : ∀ x y z u, (f x y z u).1 → Fun P Gl n [Enc.enc x, Enc.enc y, Enc.enc z, Enc.enc u] (f x y z u).2) : Row P Gl n (A4 f) := by
  intro l ha
  unfold A4 at ha ⊢
  split at ha
  · obtain ⟨h1, h2, h4, h5, h3⟩ := ha
    have := h _ _ _ _ h3
    rw [← Enc.sound _ h1, ← Enc.sound _ h2, ← Enc.sound _ h4, ← Enc.sound _ h5] at this
    exact this
  · exact ha.elim
attribute [go_sem] A4

def σs1 (r : Nat) (e : BitVec 8) (text : List (BitVec 8)) (n : Int) (k : Nat) : St :=
  ⟨[(0, .i r), (3, .i n), (9, .sl 0 0 (padP text e k).length 1)], [(0, ⟨(padP text e k).map .u8, true⟩)], 1⟩
def σs2 (r : Nat) (P : List (BitVec 8)) (n : Int) (q : Nat) : St :=
  ⟨[(0, .i r), (3, .i n), (9, .sl 0 0 P.length 1), (10, .ptr 1 0), (11, .i (q * r : Nat))], [(0, ⟨P.map .u8, true⟩), (1, ⟨(absR P r q).map .u64, true⟩)], 2⟩
def σs3 (r : Nat) (P : List (BitVec 8)) (n : Int) (q i : Nat) : St :=
  ⟨[(0, .i r), (3, .i n), (9, .sl 0 0 P.length 1), (10, .ptr 1 0), (11, .i (q * r : Nat)), (42, .i r), (43, .i i)], [(0, ⟨P.map .u8, true⟩), (1, ⟨(putsAt (absR P r q) P (q * r) i).map .u64, true⟩)], 2⟩
def σs4 (r : Nat) (S : La) (n : Int) (m : Nat) : St :=
  ⟨[(0, .i r), (3, .i n), (10, .ptr 1 0), (13, .sl 2 0 m 1)], [(1, ⟨(gS r (S, 0) m).1.map .u64, true⟩), (2, ⟨(gO r (S, 0) m).map .u8, true⟩)], 3⟩

theorem pad_ex (r L : Nat) (hr : 0 < r) : ∃ K, K < r ∧ (L + 1 + K) % r = 0 := by
  refine ⟨(r - (L + 1) % r) % r, Nat.mod_lt _ hr, ?_⟩
  have h1 := Nat.mod_lt (L + 1) hr
  rw [Nat.add_mod_mod, Nat.add_mod]
  rcases Nat.eq_zero_or_pos ((L + 1) % r) with h | h
  · rw [h]; simp
  · have h2 := Nat.div_add_mod (L + 1) r
    rw [← Nat.add_mod, ← h2]
    rw [show r * ((L + 1) / r) + (L + 1) % r + (r - (r * ((L + 1) / r) + (L + 1) % r) % r) = r * ((L + 1) / r) + r by rw [h2]; omega]
    rw [← Nat.mul_succ, Nat.mul_mod_right]
theorem pad_uniq {r L k K : Nat} (h1 : (L + k) % r = 0) (h2 : (L + K) % r = 0) (hk : k ≤ K) (hK : K < r) : k = K := by
  have e : (K - k) % r = 0 := by
    obtain ⟨a, ha⟩ := Nat.dvd_of_mod_eq_zero h1
    obtain ⟨b, hb⟩ := Nat.dvd_of_mod_eq_zero h2
    have : K - k = r * b - r * a := by omega
    rw [this, ← Nat.mul_sub]; exact Nat.mul_mod_right _ _
  rw [Nat.mod_eq_of_lt (by omega)] at e
  omega

theorem blk_step {r : Nat} (hr : 0 < r) (S : La) (q t : Nat) (h1 : 1 ≤ t) (h2 : t ≤ r) : gO r (S, 0) (q * r + t) = gO r (S, 0) (q * r) ++ bytesL (if q = 0 then S else perm (gS r (S, 0) (q * r)).1) t ∧ (gS r (S, 0) (q * r + t)).1 = if q = 0 then S else perm (gS r (S, 0) (q * r)).1 := by
  have hp := gS_full hr S q
  refine ⟨by rw [gO_add, gO_blk hp h2], ?_⟩
  obtain ⟨t, rfl⟩ := Nat.exists_eq_succ_of_ne_zero (by omega : t ≠ 0)
  rw [← gS_add, (gS_blk hp t h2).1]

set_option maxHeartbeats 16000000 in
theorem Sponge_fun (r : Nat) (e : BitVec 8) (text : List (BitVec 8)) (n : Nat) (hr0 : 0 < r) (hr : r ≤ 200) (ht : text.length ≤ 1000000000) (hn : n ≤ 1048576) :
    Fun Try.prog [] 69 [Enc.enc (r : Int), Enc.enc e, Enc.enc text, Enc.enc (n : Int)] (Enc.ret (sha3S r e n text)) := by
  obtain ⟨K, hK, hKm⟩ := pad_ex r text.length hr0
  refine Fun_cc [mark 16, mark 17, ctRPerm, ctBytes] mo Try.func69 (by decide) cc69 rs69 Try.ntmps69 (by simp) ?_
  have hct : CtOK Try.prog [] [mark 16, mark 17, ctRPerm, ctBytes] := mark_ok 16 (mark_ok 17 (ctRPerm_ok (ctBytes_ok CtOK_nil)))
  refine AW_run hct 1000 ?_
  have j1 : ([text, [e]] : List (List (BitVec 8))).flatten = text ++ [e] := by simp
  have hj := Join_funG [text, [e]] (by simp) (by rw [j1, List.length_append, List.length_singleton]; omega)
  rw [j1] at hj
  simp (maxSteps := 10000000) (disch := omega) only [go_sem, c69, List.replicate_succ, List.replicate_zero, List.drop_succ_cons, List.drop_zero, ctRPerm, ctBytes, reduceIte, Nat.reduceAdd, Nat.reduceSub, Nat.reduceMul, Nat.reduceDiv, Nat.reduceMod, Nat.reducePow, Nat.reduceLT, Nat.reduceLeDiff, Nat.reduceBEq, Nat.reduceEqDiff, Nat.reduceAnd, Int.reduceLT, Int.reduceLE, Int.reduceEq, Int.reduceAdd, Int.reduceSub, Int.reduceMul, Int.reduceDiv, Int.reduceMod, Int.reducePow, Int.reduceToNat, Int.reduceNatCast, Int.reduceNeg, BitVec.reduceAdd, BitVec.reduceSub, BitVec.reduceMul, BitVec.reduceUDiv, BitVec.reduceUMod, BitVec.reduceDiv, BitVec.reduceMod, BitVec.reduceLT, BitVec.reduceLE, BitVec.reduceEq, BitVec.reduceToNat, BitVec.reduceToInt, BitVec.reduceOfInt, BitVec.reduceSetWidth, BitVec.reduceAnd, BitVec.reduceOr, BitVec.reduceXOr, BitVec.reduceNot, BitVec.reduceHShiftLeft, BitVec.reduceHShiftRight]
  refine AW_callG [] [(0, 2)] 3 [] false (by simp only [go_sem, reduceIte, Nat.reduceAdd, Nat.reduceSub, Nat.reduceMul, Nat.reduceDiv, Nat.reduceMod, Nat.reducePow, Nat.reduceLT, Nat.reduceLeDiff, Nat.reduceBEq, Nat.reduceEqDiff, Nat.reduceAnd, Int.reduceLT, Int.reduceLE, Int.reduceEq, Int.reduceAdd, Int.reduceSub, Int.reduceMul, Int.reduceDiv, Int.reduceMod, Int.reducePow, Int.reduceToNat, Int.reduceNatCast, Int.reduceNeg, BitVec.reduceAdd, BitVec.reduceSub, BitVec.reduceMul, BitVec.reduceUDiv, BitVec.reduceUMod, BitVec.reduceDiv, BitVec.reduceMod, BitVec.reduceLT, BitVec.reduceLE, BitVec.reduceEq, BitVec.reduceToNat, BitVec.reduceToInt, BitVec.reduceOfInt, BitVec.reduceSetWidth, BitVec.reduceAnd, BitVec.reduceOr, BitVec.reduceXOr, BitVec.reduceNot, BitVec.reduceHShiftLeft, BitVec.reduceHShiftRight]) (by simp only [go_sem, reduceIte, Nat.reduceAdd, Nat.reduceSub, Nat.reduceMul, Nat.reduceDiv, Nat.reduceMod, Nat.reducePow, Nat.reduceLT, Nat.reduceLeDiff, Nat.reduceBEq, Nat.reduceEqDiff, Nat.reduceAnd, Int.reduceLT, Int.reduceLE, Int.reduceEq, Int.reduceAdd, Int.reduceSub, Int.reduceMul, Int.reduceDiv, Int.reduceMod, Int.reducePow, Int.reduceToNat, Int.reduceNatCast, Int.reduceNeg, BitVec.reduceAdd, BitVec.reduceSub, BitVec.reduceMul, BitVec.reduceUDiv, BitVec.reduceUMod, BitVec.reduceDiv, BitVec.reduceMod, BitVec.reduceLT, BitVec.reduceLE, BitVec.reduceEq, BitVec.reduceToNat, BitVec.reduceToInt, BitVec.reduceOfInt, BitVec.reduceSetWidth, BitVec.reduceAnd, BitVec.reduceOr, BitVec.reduceXOr, BitVec.reduceNot, BitVec.reduceHShiftLeft, BitVec.reduceHShiftRight]) hj (by rfl) (.inr rfl) (by simp only [go_sem, reduceIte, Nat.reduceAdd, Nat.reduceSub, Nat.reduceMul, Nat.reduceDiv, Nat.reduceMod, Nat.reducePow, Nat.reduceLT, Nat.reduceLeDiff, Nat.reduceBEq, Nat.reduceEqDiff, Nat.reduceAnd, Int.reduceLT, Int.reduceLE, Int.reduceEq, Int.reduceAdd, Int.reduceSub, Int.reduceMul, Int.reduceDiv, Int.reduceMod, Int.reducePow, Int.reduceToNat, Int.reduceNatCast, Int.reduceNeg, BitVec.reduceAdd, BitVec.reduceSub, BitVec.reduceMul, BitVec.reduceUDiv, BitVec.reduceUMod, BitVec.reduceDiv, BitVec.reduceMod, BitVec.reduceLT, BitVec.reduceLE, BitVec.reduceEq, BitVec.reduceToNat, BitVec.reduceToInt, BitVec.reduceOfInt, BitVec.reduceSetWidth, BitVec.reduceAnd, BitVec.reduceOr, BitVec.reduceXOr, BitVec.reduceNot, BitVec.reduceHShiftLeft, BitVec.reduceHShiftRight]) (by rfl) (by simp only [go_sem, List.take_succ_cons, List.take_zero, List.length_cons, List.length_nil, reduceIte, Nat.reduceAdd, Nat.reduceSub, Nat.reduceMul, Nat.reduceDiv, Nat.reduceMod, Nat.reducePow, Nat.reduceLT, Nat.reduceLeDiff, Nat.reduceBEq, Nat.reduceEqDiff, Nat.reduceAnd, Int.reduceLT, Int.reduceLE, Int.reduceEq, Int.reduceAdd, Int.reduceSub, Int.reduceMul, Int.reduceDiv, Int.reduceMod, Int.reducePow, Int.reduceToNat, Int.reduceNatCast, Int.reduceNeg, BitVec.reduceAdd, BitVec.reduceSub, BitVec.reduceMul, BitVec.reduceUDiv, BitVec.reduceUMod, BitVec.reduceDiv, BitVec.reduceMod, BitVec.reduceLT, BitVec.reduceLE, BitVec.reduceEq, BitVec.reduceToNat, BitVec.reduceToInt, BitVec.reduceOfInt, BitVec.reduceSetWidth, BitVec.reduceAnd, BitVec.reduceOr, BitVec.reduceXOr, BitVec.reduceNot, BitVec.reduceHShiftLeft, BitVec.reduceHShiftRight]; try simp) (by simp only [go_sem, reduceIte, Nat.reduceAdd, Nat.reduceSub, Nat.reduceMul, Nat.reduceDiv, Nat.reduceMod, Nat.reducePow, Nat.reduceLT, Nat.reduceLeDiff, Nat.reduceBEq, Nat.reduceEqDiff, Nat.reduceAnd, Int.reduceLT, Int.reduceLE, Int.reduceEq, Int.reduceAdd, Int.reduceSub, Int.reduceMul, Int.reduceDiv, Int.reduceMod, Int.reducePow, Int.reduceToNat, Int.reduceNatCast, Int.reduceNeg, BitVec.reduceAdd, BitVec.reduceSub, BitVec.reduceMul, BitVec.reduceUDiv, BitVec.reduceUMod, BitVec.reduceDiv, BitVec.reduceMod, BitVec.reduceLT, BitVec.reduceLE, BitVec.reduceEq, BitVec.reduceToNat, BitVec.reduceToInt, BitVec.reduceOfInt, BitVec.reduceSetWidth, BitVec.reduceAnd, BitVec.reduceOr, BitVec.reduceXOr, BitVec.reduceNot, BitVec.reduceHShiftLeft, BitVec.reduceHShiftRight]) (by simp only [go_sem, reduceIte, Nat.reduceAdd, Nat.reduceSub, Nat.reduceMul, Nat.reduceDiv, Nat.reduceMod, Nat.reducePow, Nat.reduceLT, Nat.reduceLeDiff, Nat.reduceBEq, Nat.reduceEqDiff, Nat.reduceAnd, Int.reduceLT, Int.reduceLE, Int.reduceEq, Int.reduceAdd, Int.reduceSub, Int.reduceMul, Int.reduceDiv, Int.reduceMod, Int.reducePow, Int.reduceToNat, Int.reduceNatCast, Int.reduceNeg, BitVec.reduceAdd, BitVec.reduceSub, BitVec.reduceMul, BitVec.reduceUDiv, BitVec.reduceUMod, BitVec.reduceDiv, BitVec.reduceMod, BitVec.reduceLT, BitVec.reduceLE, BitVec.reduceEq, BitVec.reduceToNat, BitVec.reduceToInt, BitVec.reduceOfInt, BitVec.reduceSetWidth, BitVec.reduceAnd, BitVec.reduceOr, BitVec.reduceXOr, BitVec.reduceNot, BitVec.reduceHShiftLeft, BitVec.reduceHShiftRight]) (by simp only [go_sem, reduceIte, Nat.reduceAdd, Nat.reduceSub, Nat.reduceMul, Nat.reduceDiv, Nat.reduceMod, Nat.reducePow, Nat.reduceLT, Nat.reduceLeDiff, Nat.reduceBEq, Nat.reduceEqDiff, Nat.reduceAnd, Int.reduceLT, Int.reduceLE, Int.reduceEq, Int.reduceAdd, Int.reduceSub, Int.reduceMul, Int.reduceDiv, Int.reduceMod, Int.reducePow, Int.reduceToNat, Int.reduceNatCast, Int.reduceNeg, BitVec.reduceAdd, BitVec.reduceSub, BitVec.reduceMul, BitVec.reduceUDiv, BitVec.reduceUMod, BitVec.reduceDiv, BitVec.reduceMod, BitVec.reduceLT, BitVec.reduceLE, BitVec.reduceEq, BitVec.reduceToNat, BitVec.reduceToInt, BitVec.reduceOfInt, BitVec.reduceSetWidth, BitVec.reduceAnd, BitVec.reduceOr, BitVec.reduceXOr, BitVec.reduceNot, BitVec.reduceHShiftLeft, BitVec.reduceHShiftRight]) ?_
  refine AW_ct [mark 16, mark 17, ctRPerm, ctBytes] (AW_run hct 1000 ?_)
  simp (maxSteps := 10000000) (disch := omega) only [go_sem, ctRPerm, ctBytes, reduceIte, Nat.reduceAdd, Nat.reduceSub, Nat.reduceMul, Nat.reduceDiv, Nat.reduceMod, Nat.reducePow, Nat.reduceLT, Nat.reduceLeDiff, Nat.reduceBEq, Nat.reduceEqDiff, Nat.reduceAnd, Int.reduceLT, Int.reduceLE, Int.reduceEq, Int.reduceAdd, Int.reduceSub, Int.reduceMul, Int.reduceDiv, Int.reduceMod, Int.reducePow, Int.reduceToNat, Int.reduceNatCast, Int.reduceNeg, BitVec.reduceAdd, BitVec.reduceSub, BitVec.reduceMul, BitVec.reduceUDiv, BitVec.reduceUMod, BitVec.reduceDiv, BitVec.reduceMod, BitVec.reduceLT, BitVec.reduceLE, BitVec.reduceEq, BitVec.reduceToNat, BitVec.reduceToInt, BitVec.reduceOfInt, BitVec.reduceSetWidth, BitVec.reduceAnd, BitVec.reduceOr, BitVec.reduceXOr, BitVec.reduceNot, BitVec.reduceHShiftLeft, BitVec.reduceHShiftRight]
  refine AW_loop (σs1 r e text n) (fun k => k ≤ K) (fun k => K - k) 0 (Nat.zero_le _) (Wk_p [(0, 2)] ?_) fun k hk => ?_
  · simp only [go_sem, σs1, padP, List.replicate_zero, List.append_nil, reduceIte, Nat.reduceAdd, Nat.reduceSub, Nat.reduceMul, Nat.reduceDiv, Nat.reduceMod, Nat.reducePow, Nat.reduceLT, Nat.reduceLeDiff, Nat.reduceBEq, Nat.reduceEqDiff, Nat.reduceAnd, Int.reduceLT, Int.reduceLE, Int.reduceEq, Int.reduceAdd, Int.reduceSub, Int.reduceMul, Int.reduceDiv, Int.reduceMod, Int.reducePow, Int.reduceToNat, Int.reduceNatCast, Int.reduceNeg, BitVec.reduceAdd, BitVec.reduceSub, BitVec.reduceMul, BitVec.reduceUDiv, BitVec.reduceUMod, BitVec.reduceDiv, BitVec.reduceMod, BitVec.reduceLT, BitVec.reduceLE, BitVec.reduceEq, BitVec.reduceToNat, BitVec.reduceToInt, BitVec.reduceOfInt, BitVec.reduceSetWidth, BitVec.reduceAnd, BitVec.reduceOr, BitVec.reduceXOr, BitVec.reduceNot, BitVec.reduceHShiftLeft, BitVec.reduceHShiftRight]
    try simp
  · refine AW_run hct 1000 ?_
    have hpl := padP_len text e k
    simp (maxSteps := 10000000) (disch := omega) only [go_sem, σs1, Int.tmod_eq_emod_of_nonneg, ctRPerm, ctBytes, reduceIte, Nat.reduceAdd, Nat.reduceSub, Nat.reduceMul, Nat.reduceDiv, Nat.reduceMod, Nat.reducePow, Nat.reduceLT, Nat.reduceLeDiff, Nat.reduceBEq, Nat.reduceEqDiff, Nat.reduceAnd, Int.reduceLT, Int.reduceLE, Int.reduceEq, Int.reduceAdd, Int.reduceSub, Int.reduceMul, Int.reduceDiv, Int.reduceMod, Int.reducePow, Int.reduceToNat, Int.reduceNatCast, Int.reduceNeg, BitVec.reduceAdd, BitVec.reduceSub, BitVec.reduceMul, BitVec.reduceUDiv, BitVec.reduceUMod, BitVec.reduceDiv, BitVec.reduceMod, BitVec.reduceLT, BitVec.reduceLE, BitVec.reduceEq, BitVec.reduceToNat, BitVec.reduceToInt, BitVec.reduceOfInt, BitVec.reduceSetWidth, BitVec.reduceAnd, BitVec.reduceOr, BitVec.reduceXOr, BitVec.reduceNot, BitVec.reduceHShiftLeft, BitVec.reduceHShiftRight]
    have em : ((padP text e k).length : Int) % (r : Int) = ((text.length + 1 + k) % r : Nat) := by rw [hpl]; simp
    refine run_br (fun hb => ?_) (fun hb => ?_)
    · have hne : (text.length + 1 + k) % r ≠ 0 := by
        rw [em] at hb
        intro h0; rw [h0] at hb; simp at hb
      have hkK : k < K := by
        rcases Nat.lt_or_ge k K with h | h
        · exact h
        · have : k = K := by omega
          subst this; exact absurd hKm hne
      simp (maxSteps := 10000000) (disch := omega) only [go_sem, List.replicate_succ, List.replicate_zero, List.drop_succ_cons, List.drop_zero, ctRPerm, ctBytes, reduceIte, Nat.reduceAdd, Nat.reduceSub, Nat.reduceMul, Nat.reduceDiv, Nat.reduceMod, Nat.reducePow, Nat.reduceLT, Nat.reduceLeDiff, Nat.reduceBEq, Nat.reduceEqDiff, Nat.reduceAnd, Int.reduceLT, Int.reduceLE, Int.reduceEq, Int.reduceAdd, Int.reduceSub, Int.reduceMul, Int.reduceDiv, Int.reduceMod, Int.reducePow, Int.reduceToNat, Int.reduceNatCast, Int.reduceNeg, BitVec.reduceAdd, BitVec.reduceSub, BitVec.reduceMul, BitVec.reduceUDiv, BitVec.reduceUMod, BitVec.reduceDiv, BitVec.reduceMod, BitVec.reduceLT, BitVec.reduceLE, BitVec.reduceEq, BitVec.reduceToNat, BitVec.reduceToInt, BitVec.reduceOfInt, BitVec.reduceSetWidth, BitVec.reduceAnd, BitVec.reduceOr, BitVec.reduceXOr, BitVec.reduceNot, BitVec.reduceHShiftLeft, BitVec.reduceHShiftRight]
      have hps : padP text e (k + 1) = padP text e k ++ [0] := by simp [padP, List.replicate_succ']
      have e0 : (padP text e k).take (padP text e k).length = padP text e k := List.take_length
      refine ⟨k + 1, by omega, Wk_p [(0, 2)] ?_, by omega⟩
      simp only [go_sem, hps, e0, List.length_append, List.length_cons, List.length_nil, reduceIte, Nat.reduceAdd, Nat.reduceSub, Nat.reduceMul, Nat.reduceDiv, Nat.reduceMod, Nat.reducePow, Nat.reduceLT, Nat.reduceLeDiff, Nat.reduceBEq, Nat.reduceEqDiff, Nat.reduceAnd, Int.reduceLT, Int.reduceLE, Int.reduceEq, Int.reduceAdd, Int.reduceSub, Int.reduceMul, Int.reduceDiv, Int.reduceMod, Int.reducePow, Int.reduceToNat, Int.reduceNatCast, Int.reduceNeg, BitVec.reduceAdd, BitVec.reduceSub, BitVec.reduceMul, BitVec.reduceUDiv, BitVec.reduceUMod, BitVec.reduceDiv, BitVec.reduceMod, BitVec.reduceLT, BitVec.reduceLE, BitVec.reduceEq, BitVec.reduceToNat, BitVec.reduceToInt, BitVec.reduceOfInt, BitVec.reduceSetWidth, BitVec.reduceAnd, BitVec.reduceOr, BitVec.reduceXOr, BitVec.reduceNot, BitVec.reduceHShiftLeft, BitVec.reduceHShiftRight]
      try simp
    · have h0 : (text.length + 1 + k) % r = 0 := by
        rw [em] at hb
        have : ¬ (((text.length + 1 + k) % r : Nat) : Int) ≠ 0 := by simpa using hb
        omega
      have hkK : k = K := pad_uniq (L := text.length + 1) h0 hKm hk hK
      subst hkK
      simp (maxSteps := 10000000) (disch := omega) only [go_sem, ctRPerm, ctBytes, reduceIte, Nat.reduceAdd, Nat.reduceSub, Nat.reduceMul, Nat.reduceDiv, Nat.reduceMod, Nat.reducePow, Nat.reduceLT, Nat.reduceLeDiff, Nat.reduceBEq, Nat.reduceEqDiff, Nat.reduceAnd, Int.reduceLT, Int.reduceLE, Int.reduceEq, Int.reduceAdd, Int.reduceSub, Int.reduceMul, Int.reduceDiv, Int.reduceMod, Int.reducePow, Int.reduceToNat, Int.reduceNatCast, Int.reduceNeg, BitVec.reduceAdd, BitVec.reduceSub, BitVec.reduceMul, BitVec.reduceUDiv, BitVec.reduceUMod, BitVec.reduceDiv, BitVec.reduceMod, BitVec.reduceLT, BitVec.reduceLE, BitVec.reduceEq, BitVec.reduceToNat, BitVec.reduceToInt, BitVec.reduceOfInt, BitVec.reduceSetWidth, BitVec.reduceAnd, BitVec.reduceOr, BitVec.reduceXOr, BitVec.reduceNot, BitVec.reduceHShiftLeft, BitVec.reduceHShiftRight]
      have ei : (((padP text e k).length : Int) - 1).toNat = text.length + k := by omega
      have hlaw := pad_law text e k hr0 hK h0
      have hX : (padP text e k).set (text.length + k) ((padP text e k).getD (text.length + k) 0 ^^^ 128) = padX text e k := rfl
      have hXl := padX_len text e k
      obtain ⟨mq, hmq⟩ := Nat.dvd_of_mod_eq_zero h0
      rw [Nat.mul_comm] at hmq
      have hpl2 : (padP text e k).length = (padX text e k).length := by rw [hpl, hXl]
      generalize padX text e k = P at *
      have hPl : P.length = mq * r := by omega
      have ei2 : ((P.length : Int) - 1).toNat = text.length + k := by omega
      refine AW_loop (σs2 r P n) (fun q => q ≤ mq) (fun q => mq - q) 0 (Nat.zero_le _) (Wk_p [] ?_) fun q hq => ?_
      · simp only [go_sem, σs2, ei, ei2, hX, hpl2, absR, z0, Nat.zero_mul, reduceIte, Nat.reduceAdd, Nat.reduceSub, Nat.reduceMul, Nat.reduceDiv, Nat.reduceMod, Nat.reducePow, Nat.reduceLT, Nat.reduceLeDiff, Nat.reduceBEq, Nat.reduceEqDiff, Nat.reduceAnd, Int.reduceLT, Int.reduceLE, Int.reduceEq, Int.reduceAdd, Int.reduceSub, Int.reduceMul, Int.reduceDiv, Int.reduceMod, Int.reducePow, Int.reduceToNat, Int.reduceNatCast, Int.reduceNeg, BitVec.reduceAdd, BitVec.reduceSub, BitVec.reduceMul, BitVec.reduceUDiv, BitVec.reduceUMod, BitVec.reduceDiv, BitVec.reduceMod, BitVec.reduceLT, BitVec.reduceLE, BitVec.reduceEq, BitVec.reduceToNat, BitVec.reduceToInt, BitVec.reduceOfInt, BitVec.reduceSetWidth, BitVec.reduceAnd, BitVec.reduceOr, BitVec.reduceXOr, BitVec.reduceNot, BitVec.reduceHShiftLeft, BitVec.reduceHShiftRight]
        simp [List.replicate]
      · refine AW_run hct 1000 ?_
        have hal := absR_len P r q
        simp (maxSteps := 10000000) (disch := omega) only [go_sem, σs2, ctRPerm, ctBytes, reduceIte, Nat.reduceAdd, Nat.reduceSub, Nat.reduceMul, Nat.reduceDiv, Nat.reduceMod, Nat.reducePow, Nat.reduceLT, Nat.reduceLeDiff, Nat.reduceBEq, Nat.reduceEqDiff, Nat.reduceAnd, Int.reduceLT, Int.reduceLE, Int.reduceEq, Int.reduceAdd, Int.reduceSub, Int.reduceMul, Int.reduceDiv, Int.reduceMod, Int.reducePow, Int.reduceToNat, Int.reduceNatCast, Int.reduceNeg, BitVec.reduceAdd, BitVec.reduceSub, BitVec.reduceMul, BitVec.reduceUDiv, BitVec.reduceUMod, BitVec.reduceDiv, BitVec.reduceMod, BitVec.reduceLT, BitVec.reduceLE, BitVec.reduceEq, BitVec.reduceToNat, BitVec.reduceToInt, BitVec.reduceOfInt, BitVec.reduceSetWidth, BitVec.reduceAnd, BitVec.reduceOr, BitVec.reduceXOr, BitVec.reduceNot, BitVec.reduceHShiftLeft, BitVec.reduceHShiftRight]
        refine run_br (fun hb => ?_) (fun hb => ?_)
        · have hlt : q * r < mq * r := by have := of_decide_eq_true hb; omega
          have hq2 : q < mq := Nat.lt_of_mul_lt_mul_right hlt
          have hqr : q * r + r ≤ mq * r := by have := Nat.mul_le_mul_right r (show q + 1 ≤ mq by omega); rwa [Nat.succ_mul] at this
          simp (maxSteps := 10000000) (disch := omega) only [go_sem, ctRPerm, ctBytes, reduceIte, Nat.reduceAdd, Nat.reduceSub, Nat.reduceMul, Nat.reduceDiv, Nat.reduceMod, Nat.reducePow, Nat.reduceLT, Nat.reduceLeDiff, Nat.reduceBEq, Nat.reduceEqDiff, Nat.reduceAnd, Int.reduceLT, Int.reduceLE, Int.reduceEq, Int.reduceAdd, Int.reduceSub, Int.reduceMul, Int.reduceDiv, Int.reduceMod, Int.reducePow, Int.reduceToNat, Int.reduceNatCast, Int.reduceNeg, BitVec.reduceAdd, BitVec.reduceSub, BitVec.reduceMul, BitVec.reduceUDiv, BitVec.reduceUMod, BitVec.reduceDiv, BitVec.reduceMod, BitVec.reduceLT, BitVec.reduceLE, BitVec.reduceEq, BitVec.reduceToNat, BitVec.reduceToInt, BitVec.reduceOfInt, BitVec.reduceSetWidth, BitVec.reduceAnd, BitVec.reduceOr, BitVec.reduceXOr, BitVec.reduceNot, BitVec.reduceHShiftLeft, BitVec.reduceHShiftRight]
          refine AW_loop (σs3 r P n q) (fun i => i ≤ r) (fun i => r - i) 0 (Nat.zero_le _) (Wk_p [] ?_) fun i hi => ?_
          · simp only [go_sem, σs3, putsAt, reduceIte, Nat.reduceAdd, Nat.reduceSub, Nat.reduceMul, Nat.reduceDiv, Nat.reduceMod, Nat.reducePow, Nat.reduceLT, Nat.reduceLeDiff, Nat.reduceBEq, Nat.reduceEqDiff, Nat.reduceAnd, Int.reduceLT, Int.reduceLE, Int.reduceEq, Int.reduceAdd, Int.reduceSub, Int.reduceMul, Int.reduceDiv, Int.reduceMod, Int.reducePow, Int.reduceToNat, Int.reduceNatCast, Int.reduceNeg, BitVec.reduceAdd, BitVec.reduceSub, BitVec.reduceMul, BitVec.reduceUDiv, BitVec.reduceUMod, BitVec.reduceDiv, BitVec.reduceMod, BitVec.reduceLT, BitVec.reduceLE, BitVec.reduceEq, BitVec.reduceToNat, BitVec.reduceToInt, BitVec.reduceOfInt, BitVec.reduceSetWidth, BitVec.reduceAnd, BitVec.reduceOr, BitVec.reduceXOr, BitVec.reduceNot, BitVec.reduceHShiftLeft, BitVec.reduceHShiftRight]
            simp
          · refine AW_run hct 1000 ?_
            have hpt := putsAt_len (absR P r q) P (q * r) i
            rw [hal] at hpt
            simp (maxSteps := 10000000) (disch := omega) only [go_sem, σs3, ctRPerm, ctBytes, reduceIte, Nat.reduceAdd, Nat.reduceSub, Nat.reduceMul, Nat.reduceDiv, Nat.reduceMod, Nat.reducePow, Nat.reduceLT, Nat.reduceLeDiff, Nat.reduceBEq, Nat.reduceEqDiff, Nat.reduceAnd, Int.reduceLT, Int.reduceLE, Int.reduceEq, Int.reduceAdd, Int.reduceSub, Int.reduceMul, Int.reduceDiv, Int.reduceMod, Int.reducePow, Int.reduceToNat, Int.reduceNatCast, Int.reduceNeg, BitVec.reduceAdd, BitVec.reduceSub, BitVec.reduceMul, BitVec.reduceUDiv, BitVec.reduceUMod, BitVec.reduceDiv, BitVec.reduceMod, BitVec.reduceLT, BitVec.reduceLE, BitVec.reduceEq, BitVec.reduceToNat, BitVec.reduceToInt, BitVec.reduceOfInt, BitVec.reduceSetWidth, BitVec.reduceAnd, BitVec.reduceOr, BitVec.reduceXOr, BitVec.reduceNot, BitVec.reduceHShiftLeft, BitVec.reduceHShiftRight]
            refine run_br (fun hd => ?_) (fun hd => ?_)
            · have hil : i < r := by have := of_decide_eq_true hd; omega
              simp (maxSteps := 10000000) (disch := omega) only [go_sem, Int.tmod_eq_emod_of_nonneg, Int.tdiv_eq_ediv_of_nonneg, ctRPerm, ctBytes, reduceIte, Nat.reduceAdd, Nat.reduceSub, Nat.reduceMul, Nat.reduceDiv, Nat.reduceMod, Nat.reducePow, Nat.reduceLT, Nat.reduceLeDiff, Nat.reduceBEq, Nat.reduceEqDiff, Nat.reduceAnd, Int.reduceLT, Int.reduceLE, Int.reduceEq, Int.reduceAdd, Int.reduceSub, Int.reduceMul, Int.reduceDiv, Int.reduceMod, Int.reducePow, Int.reduceToNat, Int.reduceNatCast, Int.reduceNeg, BitVec.reduceAdd, BitVec.reduceSub, BitVec.reduceMul, BitVec.reduceUDiv, BitVec.reduceUMod, BitVec.reduceDiv, BitVec.reduceMod, BitVec.reduceLT, BitVec.reduceLE, BitVec.reduceEq, BitVec.reduceToNat, BitVec.reduceToInt, BitVec.reduceOfInt, BitVec.reduceSetWidth, BitVec.reduceAnd, BitVec.reduceOr, BitVec.reduceXOr, BitVec.reduceNot, BitVec.reduceHShiftLeft, BitVec.reduceHShiftRight]
              have e1 : ((i : Int) / 8).toNat = i / 8 := by omega
              have e2 : (BitVec.ofInt 64 (8 * ((i : Int) % 8))).toNat = 8 * (i % 8) := by rw [BitVec.toNat_ofInt]; omega
              have e3 : (((q * r : Nat) : Int) + (i : Int)).toNat = q * r + i := by omega
              refine ⟨i + 1, by omega, Wk_p [] ?_, by omega⟩
              simp only [go_sem, e1, e2, e3, reduceIte, Nat.reduceAdd, Nat.reduceSub, Nat.reduceMul, Nat.reduceDiv, Nat.reduceMod, Nat.reducePow, Nat.reduceLT, Nat.reduceLeDiff, Nat.reduceBEq, Nat.reduceEqDiff, Nat.reduceAnd, Int.reduceLT, Int.reduceLE, Int.reduceEq, Int.reduceAdd, Int.reduceSub, Int.reduceMul, Int.reduceDiv, Int.reduceMod, Int.reducePow, Int.reduceToNat, Int.reduceNatCast, Int.reduceNeg, BitVec.reduceAdd, BitVec.reduceSub, BitVec.reduceMul, BitVec.reduceUDiv, BitVec.reduceUMod, BitVec.reduceDiv, BitVec.reduceMod, BitVec.reduceLT, BitVec.reduceLE, BitVec.reduceEq, BitVec.reduceToNat, BitVec.reduceToInt, BitVec.reduceOfInt, BitVec.reduceSetWidth, BitVec.reduceAnd, BitVec.reduceOr, BitVec.reduceXOr, BitVec.reduceNot, BitVec.reduceHShiftLeft, BitVec.reduceHShiftRight]
              simp [putsAt, putS]
            · have hie : i = r := by have := of_decide_eq_false hd; omega
              subst hie
              have hpp := perm_len hpt
              have htk : (putsAt (absR P i q) P (q * i) i).take 25 = putsAt (absR P i q) P (q * i) i := List.take_of_length_le (by omega)
              simp (maxSteps := 10000000) (disch := omega) only [go_sem, ctRPerm, ctBytes, htk, List.drop_eq_nil_of_le, List.append_nil, reduceIte, Nat.reduceAdd, Nat.reduceSub, Nat.reduceMul, Nat.reduceDiv, Nat.reduceMod, Nat.reducePow, Nat.reduceLT, Nat.reduceLeDiff, Nat.reduceBEq, Nat.reduceEqDiff, Nat.reduceAnd, Int.reduceLT, Int.reduceLE, Int.reduceEq, Int.reduceAdd, Int.reduceSub, Int.reduceMul, Int.reduceDiv, Int.reduceMod, Int.reducePow, Int.reduceToNat, Int.reduceNatCast, Int.reduceNeg, BitVec.reduceAdd, BitVec.reduceSub, BitVec.reduceMul, BitVec.reduceUDiv, BitVec.reduceUMod, BitVec.reduceDiv, BitVec.reduceMod, BitVec.reduceLT, BitVec.reduceLE, BitVec.reduceEq, BitVec.reduceToNat, BitVec.reduceToInt, BitVec.reduceOfInt, BitVec.reduceSetWidth, BitVec.reduceAnd, BitVec.reduceOr, BitVec.reduceXOr, BitVec.reduceNot, BitVec.reduceHShiftLeft, BitVec.reduceHShiftRight]
              have e4 : (((q * i : Nat) : Int) + (i : Int)) = (((q + 1) * i : Nat) : Int) := by rw [Nat.succ_mul]; simp
              refine ⟨q + 1, by omega, Wk_p [] ?_, by omega⟩
              simp only [go_sem, e4, absR, reduceIte, Nat.reduceAdd, Nat.reduceSub, Nat.reduceMul, Nat.reduceDiv, Nat.reduceMod, Nat.reducePow, Nat.reduceLT, Nat.reduceLeDiff, Nat.reduceBEq, Nat.reduceEqDiff, Nat.reduceAnd, Int.reduceLT, Int.reduceLE, Int.reduceEq, Int.reduceAdd, Int.reduceSub, Int.reduceMul, Int.reduceDiv, Int.reduceMod, Int.reducePow, Int.reduceToNat, Int.reduceNatCast, Int.reduceNeg, BitVec.reduceAdd, BitVec.reduceSub, BitVec.reduceMul, BitVec.reduceUDiv, BitVec.reduceUMod, BitVec.reduceDiv, BitVec.reduceMod, BitVec.reduceLT, BitVec.reduceLE, BitVec.reduceEq, BitVec.reduceToNat, BitVec.reduceToInt, BitVec.reduceOfInt, BitVec.reduceSetWidth, BitVec.reduceAnd, BitVec.reduceOr, BitVec.reduceXOr, BitVec.reduceNot, BitVec.reduceHShiftLeft, BitVec.reduceHShiftRight]
              try simp
        · have hqe : q = mq := by
            have h9 : ¬ q * r < mq * r := by have := of_decide_eq_false hb; omega
            rcases Nat.lt_or_ge q mq with h | h
            · exact absurd (Nat.mul_lt_mul_of_pos_right h hr0) h9
            · omega
          subst hqe
          have hS := absR_eq P hr0 q (by omega)
          rw [List.take_of_length_le (by omega), hlaw] at hS
          have hS1 : absR P r q = takes0 r e text := by simpa using (congrArg Prod.fst hS).symm
          rw [hS1] at hal
          simp (maxSteps := 10000000) (disch := omega) only [go_sem, ctRPerm, ctBytes, hS1, reduceIte, Nat.reduceAdd, Nat.reduceSub, Nat.reduceMul, Nat.reduceDiv, Nat.reduceMod, Nat.reducePow, Nat.reduceLT, Nat.reduceLeDiff, Nat.reduceBEq, Nat.reduceEqDiff, Nat.reduceAnd, Int.reduceLT, Int.reduceLE, Int.reduceEq, Int.reduceAdd, Int.reduceSub, Int.reduceMul, Int.reduceDiv, Int.reduceMod, Int.reducePow, Int.reduceToNat, Int.reduceNatCast, Int.reduceNeg, BitVec.reduceAdd, BitVec.reduceSub, BitVec.reduceMul, BitVec.reduceUDiv, BitVec.reduceUMod, BitVec.reduceDiv, BitVec.reduceMod, BitVec.reduceLT, BitVec.reduceLE, BitVec.reduceEq, BitVec.reduceToNat, BitVec.reduceToInt, BitVec.reduceOfInt, BitVec.reduceSetWidth, BitVec.reduceAnd, BitVec.reduceOr, BitVec.reduceXOr, BitVec.reduceNot, BitVec.reduceHShiftLeft, BitVec.reduceHShiftRight]
          have hfin : sha3S r e n text = gO r (takes0 r e text, 0) n := rfl
          rw [hfin]
          generalize takes0 r e text = S at *
          refine AW_loop (σs4 r S n) (fun m => m ≤ n ∧ (m = n ∨ ∃ q, m = q * r)) (fun m => n - m) 0 ⟨Nat.zero_le _, .inr ⟨0, by omega⟩⟩ (Wk_p [] ?_) fun m hm => ?_
          · simp only [go_sem, σs4, gS, gO, List.range_zero, List.map_nil, reduceIte, Nat.reduceAdd, Nat.reduceSub, Nat.reduceMul, Nat.reduceDiv, Nat.reduceMod, Nat.reducePow, Nat.reduceLT, Nat.reduceLeDiff, Nat.reduceBEq, Nat.reduceEqDiff, Nat.reduceAnd, Int.reduceLT, Int.reduceLE, Int.reduceEq, Int.reduceAdd, Int.reduceSub, Int.reduceMul, Int.reduceDiv, Int.reduceMod, Int.reducePow, Int.reduceToNat, Int.reduceNatCast, Int.reduceNeg, BitVec.reduceAdd, BitVec.reduceSub, BitVec.reduceMul, BitVec.reduceUDiv, BitVec.reduceUMod, BitVec.reduceDiv, BitVec.reduceMod, BitVec.reduceLT, BitVec.reduceLE, BitVec.reduceEq, BitVec.reduceToNat, BitVec.reduceToInt, BitVec.reduceOfInt, BitVec.reduceSetWidth, BitVec.reduceAnd, BitVec.reduceOr, BitVec.reduceXOr, BitVec.reduceNot, BitVec.reduceHShiftLeft, BitVec.reduceHShiftRight]
            try simp
          · obtain ⟨hm1, hm2⟩ := hm
            obtain ⟨hg, hg'⟩ := gS_ok (r := r) (st := (S, 0)) hr0 ⟨hal, by simp⟩ m
            have hgl := gO_len r (S, 0) m
            have tk : (gO r (S, 0) m).take m = gO r (S, 0) m := List.take_of_length_le (by omega)
            by_cases hmn : m = n
            · refine AW_run hct 1000 ?_
              subst hmn
              simp (maxSteps := 10000000) (disch := omega) only [go_sem, σs4, ctRPerm, ctBytes, tk, reduceIte, Nat.reduceAdd, Nat.reduceSub, Nat.reduceMul, Nat.reduceDiv, Nat.reduceMod, Nat.reducePow, Nat.reduceLT, Nat.reduceLeDiff, Nat.reduceBEq, Nat.reduceEqDiff, Nat.reduceAnd, Int.reduceLT, Int.reduceLE, Int.reduceEq, Int.reduceAdd, Int.reduceSub, Int.reduceMul, Int.reduceDiv, Int.reduceMod, Int.reducePow, Int.reduceToNat, Int.reduceNatCast, Int.reduceNeg, BitVec.reduceAdd, BitVec.reduceSub, BitVec.reduceMul, BitVec.reduceUDiv, BitVec.reduceUMod, BitVec.reduceDiv, BitVec.reduceMod, BitVec.reduceLT, BitVec.reduceLE, BitVec.reduceEq, BitVec.reduceToNat, BitVec.reduceToInt, BitVec.reduceOfInt, BitVec.reduceSetWidth, BitVec.reduceAnd, BitVec.reduceOr, BitVec.reduceXOr, BitVec.reduceNot, BitVec.reduceHShiftLeft, BitVec.reduceHShiftRight]
              simp [hgl]
            · obtain ⟨q2, hq2⟩ := hm2.resolve_left hmn
              have hlt : (m : Int) < n := by omega
              obtain ⟨A', hA'⟩ : ∃ A', A' = if q2 = 0 then S else perm (gS r (S, 0) m).1 := ⟨_, rfl⟩
              have hA'l : A'.length = 25 := by
                rw [hA']; split
                · exact hal
                · exact perm_len hg
              have htA : A'.take 25 = A' := List.take_of_length_le (by omega)
              have htg : (gS r (S, 0) m).1.take 25 = (gS r (S, 0) m).1 := List.take_of_length_le (by omega)
              have hpg := perm_len hg
              have key : ∀ t, 1 ≤ t → t ≤ r → gO r (S, 0) (m + t) = gO r (S, 0) m ++ bytesL A' t ∧ (gS r (S, 0) (m + t)).1 = A' := by
                intro t h1 h2
                have := blk_step hr0 S q2 t h1 h2
                rw [← hq2, ← hA'] at this
                exact this
              have hbl : ∀ t, (bytesL A' t).length = t := bytesL_len A'
              by_cases hrn : (r : Int) ≤ n - m
              · have hrr : 1 ≤ r := hr0
                have hbr := hbl r
                have hmin : ¬ ((n : Int) - m < r) := by omega
                have hnext : m + r = n ∨ ∃ q, m + r = q * r := .inr ⟨q2 + 1, by rw [Nat.succ_mul, ← hq2]⟩
                by_cases hz : q2 = 0
                · subst hz
                  rw [if_pos rfl] at hA'
                  have hm0 : m = 0 := by omega
                  subst hm0
                  have hk := key r (by omega) (by omega)
                  rw [Nat.zero_add] at hk hnext
                  have hgs0 : (gS r (S, 0) 0).1 = A' := by rw [hA']; rfl
                  have hgo0 : gO r (S, 0) 0 = [] := rfl
                  refine AW_run hct 1000 ?_
                  simp (maxSteps := 10000000) (disch := omega) only [go_sem, σs4, ctRPerm, ctBytes, tk, hlt, hgs0, htA, hmin, List.drop_eq_nil_of_le, List.append_nil, reduceIte, Nat.reduceAdd, Nat.reduceSub, Nat.reduceMul, Nat.reduceDiv, Nat.reduceMod, Nat.reducePow, Nat.reduceLT, Nat.reduceLeDiff, Nat.reduceBEq, Nat.reduceEqDiff, Nat.reduceAnd, Int.reduceLT, Int.reduceLE, Int.reduceEq, Int.reduceAdd, Int.reduceSub, Int.reduceMul, Int.reduceDiv, Int.reduceMod, Int.reducePow, Int.reduceToNat, Int.reduceNatCast, Int.reduceNeg, BitVec.reduceAdd, BitVec.reduceSub, BitVec.reduceMul, BitVec.reduceUDiv, BitVec.reduceUMod, BitVec.reduceDiv, BitVec.reduceMod, BitVec.reduceLT, BitVec.reduceLE, BitVec.reduceEq, BitVec.reduceToNat, BitVec.reduceToInt, BitVec.reduceOfInt, BitVec.reduceSetWidth, BitVec.reduceAnd, BitVec.reduceOr, BitVec.reduceXOr, BitVec.reduceNot, BitVec.reduceHShiftLeft, BitVec.reduceHShiftRight]
                  refine ⟨r, ⟨by omega, hnext⟩, Wk_p [(1, 1), (2, 3)] ?_, by omega⟩
                  simp only [go_sem, hk, hgl, hbr, hgo0, List.nil_append, Nat.zero_add, reduceIte, Nat.reduceAdd, Nat.reduceSub, Nat.reduceMul, Nat.reduceDiv, Nat.reduceMod, Nat.reducePow, Nat.reduceLT, Nat.reduceLeDiff, Nat.reduceBEq, Nat.reduceEqDiff, Nat.reduceAnd, Int.reduceLT, Int.reduceLE, Int.reduceEq, Int.reduceAdd, Int.reduceSub, Int.reduceMul, Int.reduceDiv, Int.reduceMod, Int.reducePow, Int.reduceToNat, Int.reduceNatCast, Int.reduceNeg, BitVec.reduceAdd, BitVec.reduceSub, BitVec.reduceMul, BitVec.reduceUDiv, BitVec.reduceUMod, BitVec.reduceDiv, BitVec.reduceMod, BitVec.reduceLT, BitVec.reduceLE, BitVec.reduceEq, BitVec.reduceToNat, BitVec.reduceToInt, BitVec.reduceOfInt, BitVec.reduceSetWidth, BitVec.reduceAnd, BitVec.reduceOr, BitVec.reduceXOr, BitVec.reduceNot, BitVec.reduceHShiftLeft, BitVec.reduceHShiftRight]
                  try simp [hbr]
                · rw [if_neg hz] at hA'
                  have hk := key r (by omega) (by omega)
                  have hmpos : 0 < (m : Int) := by have := Nat.mul_pos (Nat.pos_of_ne_zero hz) hr0; omega
                  refine AW_run hct 1000 ?_
                  simp (maxSteps := 10000000) (disch := omega) only [go_sem, σs4, ctRPerm, ctBytes, tk, hlt, hmpos, htg, ← hA', htA, hmin, List.drop_eq_nil_of_le, List.append_nil, reduceIte, Nat.reduceAdd, Nat.reduceSub, Nat.reduceMul, Nat.reduceDiv, Nat.reduceMod, Nat.reducePow, Nat.reduceLT, Nat.reduceLeDiff, Nat.reduceBEq, Nat.reduceEqDiff, Nat.reduceAnd, Int.reduceLT, Int.reduceLE, Int.reduceEq, Int.reduceAdd, Int.reduceSub, Int.reduceMul, Int.reduceDiv, Int.reduceMod, Int.reducePow, Int.reduceToNat, Int.reduceNatCast, Int.reduceNeg, BitVec.reduceAdd, BitVec.reduceSub, BitVec.reduceMul, BitVec.reduceUDiv, BitVec.reduceUMod, BitVec.reduceDiv, BitVec.reduceMod, BitVec.reduceLT, BitVec.reduceLE, BitVec.reduceEq, BitVec.reduceToNat, BitVec.reduceToInt, BitVec.reduceOfInt, BitVec.reduceSetWidth, BitVec.reduceAnd, BitVec.reduceOr, BitVec.reduceXOr, BitVec.reduceNot, BitVec.reduceHShiftLeft, BitVec.reduceHShiftRight]
                  refine ⟨m + r, ⟨by omega, hnext⟩, Wk_p [(1, 1), (2, 3)] ?_, by omega⟩
                  simp only [go_sem, hk, hgl, hbr, reduceIte, Nat.reduceAdd, Nat.reduceSub, Nat.reduceMul, Nat.reduceDiv, Nat.reduceMod, Nat.reducePow, Nat.reduceLT, Nat.reduceLeDiff, Nat.reduceBEq, Nat.reduceEqDiff, Nat.reduceAnd, Int.reduceLT, Int.reduceLE, Int.reduceEq, Int.reduceAdd, Int.reduceSub, Int.reduceMul, Int.reduceDiv, Int.reduceMod, Int.reducePow, Int.reduceToNat, Int.reduceNatCast, Int.reduceNeg, BitVec.reduceAdd, BitVec.reduceSub, BitVec.reduceMul, BitVec.reduceUDiv, BitVec.reduceUMod, BitVec.reduceDiv, BitVec.reduceMod, BitVec.reduceLT, BitVec.reduceLE, BitVec.reduceEq, BitVec.reduceToNat, BitVec.reduceToInt, BitVec.reduceOfInt, BitVec.reduceSetWidth, BitVec.reduceAnd, BitVec.reduceOr, BitVec.reduceXOr, BitVec.reduceNot, BitVec.reduceHShiftLeft, BitVec.reduceHShiftRight]
                  try simp [hbr]
              · obtain ⟨t, ht'⟩ : ∃ t, t = n - m := ⟨_, rfl⟩
                have hbr := hbl t
                have hmin : (n : Int) - m < r := by omega
                have het : ((n : Int) - m) = (t : Nat) := by omega
                have htr : (t : Int) < r := by omega
                have hnext : m + t = n ∨ ∃ q, m + t = q * r := .inl (by omega)
                by_cases hz : q2 = 0
                · subst hz
                  rw [if_pos rfl] at hA'
                  have hm0 : m = 0 := by omega
                  subst hm0
                  have hk := key t (by omega) (by omega)
                  rw [Nat.zero_add] at hk hnext
                  have hgs0 : (gS r (S, 0) 0).1 = A' := by rw [hA']; rfl
                  have hgo0 : gO r (S, 0) 0 = [] := rfl
                  refine AW_run hct 1000 ?_
                  simp (maxSteps := 10000000) (disch := omega) only [go_sem, σs4, ctRPerm, ctBytes, tk, hlt, hgs0, htA, het, htr, List.drop_eq_nil_of_le, List.append_nil, reduceIte, Nat.reduceAdd, Nat.reduceSub, Nat.reduceMul, Nat.reduceDiv, Nat.reduceMod, Nat.reducePow, Nat.reduceLT, Nat.reduceLeDiff, Nat.reduceBEq, Nat.reduceEqDiff, Nat.reduceAnd, Int.reduceLT, Int.reduceLE, Int.reduceEq, Int.reduceAdd, Int.reduceSub, Int.reduceMul, Int.reduceDiv, Int.reduceMod, Int.reducePow, Int.reduceToNat, Int.reduceNatCast, Int.reduceNeg, BitVec.reduceAdd, BitVec.reduceSub, BitVec.reduceMul, BitVec.reduceUDiv, BitVec.reduceUMod, BitVec.reduceDiv, BitVec.reduceMod, BitVec.reduceLT, BitVec.reduceLE, BitVec.reduceEq, BitVec.reduceToNat, BitVec.reduceToInt, BitVec.reduceOfInt, BitVec.reduceSetWidth, BitVec.reduceAnd, BitVec.reduceOr, BitVec.reduceXOr, BitVec.reduceNot, BitVec.reduceHShiftLeft, BitVec.reduceHShiftRight]
                  refine ⟨t, ⟨by omega, hnext⟩, Wk_p [(1, 1), (2, 3)] ?_, by omega⟩
                  simp only [go_sem, hk, hgl, hbr, hgo0, List.nil_append, Nat.zero_add, reduceIte, Nat.reduceAdd, Nat.reduceSub, Nat.reduceMul, Nat.reduceDiv, Nat.reduceMod, Nat.reducePow, Nat.reduceLT, Nat.reduceLeDiff, Nat.reduceBEq, Nat.reduceEqDiff, Nat.reduceAnd, Int.reduceLT, Int.reduceLE, Int.reduceEq, Int.reduceAdd, Int.reduceSub, Int.reduceMul, Int.reduceDiv, Int.reduceMod, Int.reducePow, Int.reduceToNat, Int.reduceNatCast, Int.reduceNeg, BitVec.reduceAdd, BitVec.reduceSub, BitVec.reduceMul, BitVec.reduceUDiv, BitVec.reduceUMod, BitVec.reduceDiv, BitVec.reduceMod, BitVec.reduceLT, BitVec.reduceLE, BitVec.reduceEq, BitVec.reduceToNat, BitVec.reduceToInt, BitVec.reduceOfInt, BitVec.reduceSetWidth, BitVec.reduceAnd, BitVec.reduceOr, BitVec.reduceXOr, BitVec.reduceNot, BitVec.reduceHShiftLeft, BitVec.reduceHShiftRight]
                  try simp [hbr]
                · rw [if_neg hz] at hA'
                  have hk := key t (by omega) (by omega)
                  have hmpos : 0 < (m : Int) := by have := Nat.mul_pos (Nat.pos_of_ne_zero hz) hr0; omega
                  refine AW_run hct 1000 ?_
                  simp (maxSteps := 10000000) (disch := omega) only [go_sem, σs4, ctRPerm, ctBytes, tk, hlt, hmpos, htg, ← hA', htA, het, htr, List.drop_eq_nil_of_le, List.append_nil, reduceIte, Nat.reduceAdd, Nat.reduceSub, Nat.reduceMul, Nat.reduceDiv, Nat.reduceMod, Nat.reducePow, Nat.reduceLT, Nat.reduceLeDiff, Nat.reduceBEq, Nat.reduceEqDiff, Nat.reduceAnd, Int.reduceLT, Int.reduceLE, Int.reduceEq, Int.reduceAdd, Int.reduceSub, Int.reduceMul, Int.reduceDiv, Int.reduceMod, Int.reducePow, Int.reduceToNat, Int.reduceNatCast, Int.reduceNeg, BitVec.reduceAdd, BitVec.reduceSub, BitVec.reduceMul, BitVec.reduceUDiv, BitVec.reduceUMod, BitVec.reduceDiv, BitVec.reduceMod, BitVec.reduceLT, BitVec.reduceLE, BitVec.reduceEq, BitVec.reduceToNat, BitVec.reduceToInt, BitVec.reduceOfInt, BitVec.reduceSetWidth, BitVec.reduceAnd, BitVec.reduceOr, BitVec.reduceXOr, BitVec.reduceNot, BitVec.reduceHShiftLeft, BitVec.reduceHShiftRight]
                  refine ⟨m + t, ⟨by omega, hnext⟩, Wk_p [(1, 1), (2, 3)] ?_, by omega⟩
                  simp only [go_sem, hk, hgl, hbr, reduceIte, Nat.reduceAdd, Nat.reduceSub, Nat.reduceMul, Nat.reduceDiv, Nat.reduceMod, Nat.reducePow, Nat.reduceLT, Nat.reduceLeDiff, Nat.reduceBEq, Nat.reduceEqDiff, Nat.reduceAnd, Int.reduceLT, Int.reduceLE, Int.reduceEq, Int.reduceAdd, Int.reduceSub, Int.reduceMul, Int.reduceDiv, Int.reduceMod, Int.reducePow, Int.reduceToNat, Int.reduceNatCast, Int.reduceNeg, BitVec.reduceAdd, BitVec.reduceSub, BitVec.reduceMul, BitVec.reduceUDiv, BitVec.reduceUMod, BitVec.reduceDiv, BitVec.reduceMod, BitVec.reduceLT, BitVec.reduceLE, BitVec.reduceEq, BitVec.reduceToNat, BitVec.reduceToInt, BitVec.reduceOfInt, BitVec.reduceSetWidth, BitVec.reduceAnd, BitVec.reduceOr, BitVec.reduceXOr, BitVec.reduceNot, BitVec.reduceHShiftLeft, BitVec.reduceHShiftRight]
                  try simp [hbr]
end Go.Lv
