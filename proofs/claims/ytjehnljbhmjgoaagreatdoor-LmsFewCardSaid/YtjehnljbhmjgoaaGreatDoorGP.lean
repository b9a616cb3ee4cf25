/- A part of the proof (GP). -/
import Derived.Test.YtjehnljbhmjgoaaGreatDoorGN
import Derived.Test.YtjehnljbhmjgoaaGreatDoorGM
import Derived.Test.YtjehnljbhmjgoaaGreatDoorGK
import Derived.Test.YtjehnljbhmjgoaaGreatDoorGO
set_option linter.all false
namespace Go.Lv
open Go Go.Proofs
set_option linter.unusedSimpArgs false
set_option maxRecDepth 100000
theorem lmsT_n {c : BitVec 32} {l : Lms} (h : lmsT c = some l) : l.n = 24 ∨ l.n = 32 := by
  rw [lmsT] at h
  cases hf : lmsF c with
  | none => rw [hf] at h; cases h
  | some p =>
    rw [hf] at h
    cases h
    simp only
    split
    · exact .inl rfl
    · exact .inr rfl
def oc (i : Nat) : BitVec 32 := BitVec.ofNat 32 (i + 1)
theorem ots_row : ∀ i < 16, (otsT (oc i)).map (fun o => (o.code, o.shake, o.n)) = some (oc i, decide (8 ≤ i), if i / 4 % 2 = 1 then 24 else 32) := by decide +kernel
theorem ots_at {i : Nat} (h : i < 16) : ∃ o, otsT (oc i) = some o ∧ o.code = oc i ∧ o.shake = decide (8 ≤ i) ∧ o.n = if i / 4 % 2 = 1 then 24 else 32 := by
  have := ots_row i h
  cases ho : otsT (oc i) with
  | none => rw [ho] at this; cases this
  | some o =>
    rw [ho] at this
    simp only [Option.map_some, Option.some.injEq, Prod.mk.injEq] at this
    exact ⟨o, rfl, this.1, this.2.1, this.2.2⟩
theorem ots_first {l : Lms} (hl : lmsT l.code = some l) : ∃ m, m < 16 ∧ (∃ o, otsT (oc m) = some o ∧ o.code = oc m ∧ fitP l o) ∧ ∀ i, i < m → ∃ o, otsT (oc i) = some o ∧ o.code = oc i ∧ ¬ fitP l o := by
  have key : ∀ m, m < 16 → (l.shake = decide (8 ≤ m) ∧ l.n = if m / 4 % 2 = 1 then 24 else 32) → (∀ i, i < m → ¬ (l.shake = decide (8 ≤ i) ∧ l.n = if i / 4 % 2 = 1 then 24 else 32)) → ∃ m, m < 16 ∧ (∃ o, otsT (oc m) = some o ∧ o.code = oc m ∧ fitP l o) ∧ ∀ i, i < m → ∃ o, otsT (oc i) = some o ∧ o.code = oc i ∧ ¬ fitP l o := by
    intro m hm h1 h2
    refine ⟨m, hm, ?_, fun i hi => ?_⟩
    · obtain ⟨o, a, b, c, d⟩ := ots_at hm
      exact ⟨o, a, b, hl, by rw [b]; exact a, h1.1.trans c.symm, h1.2.trans d.symm⟩
    · obtain ⟨o, a, b, c, d⟩ := ots_at (i := i) (by omega)
      exact ⟨o, a, b, fun hf => h2 i hi ⟨hf.2.2.1.trans c, hf.2.2.2.trans d⟩⟩
  rcases lmsT_n hl with hn | hn
  · cases hs : l.shake with
    | false => exact key 4 (by omega) ⟨hs, hn⟩ (fun i hi h => by
        rw [hn] at h
        have : i / 4 = 0 := by omega
        rw [this] at h; exact absurd h.2 (by decide))
    | true => exact key 12 (by omega) ⟨hs, hn⟩ (fun i hi h => by
        rw [hn, hs] at h
        have h1 := of_decide_eq_true h.1.symm
        have : i / 4 = 2 := by omega
        rw [this] at h; exact absurd h.2 (by decide))
  · cases hs : l.shake with
    | false => exact key 0 (by omega) ⟨hs, hn⟩ (fun i hi h => by omega)
    | true => exact key 8 (by omega) ⟨hs, hn⟩ (fun i hi h => by
        rw [hs] at h
        have h1 := of_decide_eq_true h.1.symm
        omega)
theorem known_fun (c : BitVec 32) : Fun Tryz.prog Gs 209 [Enc.enc (1 : Int), Enc.enc c] (.b (otsT c).isSome) := by
  have hct := ctOts_ok (CtOK_nil (P := Tryz.prog) (Gl := Gs))
  refine Fun_cc _ mo Tryz.func209 (by decide) cc209 rs209 Tryz.ntmps209 (by simp) (AW_run hct 1000 ?_)
  cases h : otsT c with
  | none =>
    have hR : otsR c = .tup [Enc.enc ots0, .i 60] := by rw [otsR, h]
    simp (maxSteps := 10000000) (disch := omega) only [go_sem, c209, ctOts, hR, reduceIte, seval, -BitVec.isValue, -BitVec.reduceOfNat, -List.reduceReplicate]
    try simp
  | some o =>
    have hR : otsR c = .tup [Enc.enc o, .i 0] := by rw [otsR, h]
    simp (maxSteps := 10000000) (disch := omega) only [go_sem, c209, ctOts, hR, reduceIte, seval, -BitVec.isValue, -BitVec.reduceOfNat, -List.reduceReplicate]
    try simp
def ctKnown : Nat × (List AV → R) := (209, A2 fun (k : Int) (c : BitVec 32) => (k = 1, .b (otsT c).isSome))
theorem ctKnown_ok {Ct : List (Nat × (List AV → R))} (h : CtOK Tryz.prog Gs Ct) : CtOK Tryz.prog Gs (ctKnown :: Ct) := CtOK_cons (Row2 fun k c h => by obtain rfl := h; exact known_fun c) h
def σco2 (f : BitVec 32) (yl c : Nat) : St := ⟨[(0, .fn (.yield yl) [] []), (1, .rop true [.i 1]), (2, .rop true [.u32 f]), (7, .u32 (BitVec.ofNat 32 c))], [], 0⟩
set_option maxHeartbeats 4000000 in
theorem codes1_iter (f : BitVec 32) (m : Nat) (hm : m < 16) : IterOK Tryz.prog Gs 208 36 [.rop true [.i 1], .rop true [.u32 f]] [] 0 m (fun i => [.u32 (oc i)]) true := by
  intro yl Ls hL0 hy hs
  have hn0 := CtOK_nil (P := Tryz.prog) (Gl := Gs)
  have hct := ctKnown_ok hn0
  refine IterAW_cc [ctKnown] Tryz.func208 (by decide) cc208 rs208 Tryz.ntmps208 (by simp) (AW_run hct 1000 ?_)
  simp (maxSteps := 10000000) (disch := omega) only [go_sem, c208, reduceIte, seval, -BitVec.isValue, -BitVec.reduceOfNat, -List.reduceReplicate]
  refine AW_loopW (fun c => Ls (c - 1)) (σco2 f yl) (fun c => c ≤ m + 1) (fun c => m + 2 - c) 0 (Nat.zero_le _) (Wk_l [] (hL0 0) ?_) rfl fun c hc => ?_
  · simp only [go_sem, σco2, reduceIte, seval, -BitVec.isValue, -BitVec.reduceOfNat, -List.reduceReplicate]
    try simp
  · have hlt : BitVec.ofNat 32 c < (25 : BitVec 32) := by
      rw [BitVec.lt_def, BitVec.toNat_ofNat, show (25 : BitVec 32).toNat = 25 from rfl]; omega
    have hlt' : BitVec.ofNat 32 c < 25#32 := hlt
    have hadd : BitVec.ofNat 32 c + (1 : BitVec 32) = BitVec.ofNat 32 (c + 1) := by
      apply BitVec.eq_of_toNat_eq
      rw [BitVec.toNat_add, BitVec.toNat_ofNat, BitVec.toNat_ofNat, show (1 : BitVec 32).toNat = 1 from rfl]; omega
    have hadd' : BitVec.ofNat 32 c + 1#32 = BitVec.ofNat 32 (c + 1) := hadd
    rcases Nat.eq_zero_or_pos c with h0 | h0
    · subst h0
      have hN : (otsT (BitVec.ofNat 32 0)).isSome = false := by decide +kernel
      have hN' : (otsT 0#32).isSome = false := hN
      have hN2 : (otsT (0 : BitVec 32)).isSome = false := hN
      refine AW_ct [ctKnown] (AW_run hct 1000 ?_)
      simp (maxSteps := 10000000) (disch := omega) only [go_sem, σco2, eq_true hlt, eq_true hlt', hadd, hadd', ctKnown, hN, hN', hN2, reduceIte, seval, -BitVec.isValue, -BitVec.reduceOfNat, -List.reduceReplicate]
      refine AW_lpW (Ls := fun c => Ls (c - 1)) (σ := σco2 f yl) (I := fun c => c ≤ m + 1) (μ := fun c => m + 2 - c) 1 (by omega) (by omega) (Wk_l [] (hL0 _) ?_)
      simp only [go_sem, σco2, reduceIte, seval, -BitVec.isValue, -BitVec.reduceOfNat, -List.reduceReplicate]
      try simp
    · obtain ⟨i, rfl⟩ : ∃ i, c = i + 1 := ⟨c - 1, by omega⟩
      obtain ⟨o, ho, _⟩ := ots_at (i := i) (by omega)
      have hK : (otsT (BitVec.ofNat 32 (i + 1))).isSome = true := by
        have : otsT (BitVec.ofNat 32 (i + 1)) = some o := ho
        rw [this]; rfl
      show AW ⟨Tryz.prog, Gs, _, _, Ls (i + 1 - 1)⟩ _ _ _
      rw [Nat.add_sub_cancel]
      refine AW_ct [ctKnown] (AW_run hct 1000 ?_)
      simp (maxSteps := 10000000) (disch := omega) only [go_sem, σco2, eq_true hlt, eq_true hlt', ctKnown, hK, reduceIte, seval, -BitVec.isValue, -BitVec.reduceOfNat, -List.reduceReplicate]
      by_cases him : i = m
      · subst him
        refine AW_yield (hs rfl) (by simp only [go_sem, reduceIte, seval, -BitVec.isValue, -BitVec.reduceOfNat, -List.reduceReplicate]) (by decide) (by simp only [go_sem, oc, reduceIte, seval, -BitVec.isValue, -BitVec.reduceOfNat, -List.reduceReplicate]) rfl ?_
        refine AW_ct [] (AW_run hn0 1000 ?_)
        simp (maxSteps := 10000000) (disch := omega) only [go_sem, reduceIte, seval, -BitVec.isValue, -BitVec.reduceOfNat, -List.reduceReplicate]
        exact AW_endR
      · refine AW_yield (hy i (by omega)) (by simp only [go_sem, reduceIte, seval, -BitVec.isValue, -BitVec.reduceOfNat, -List.reduceReplicate]) (by decide) (by simp only [go_sem, oc, reduceIte, seval, -BitVec.isValue, -BitVec.reduceOfNat, -List.reduceReplicate]) rfl ?_
        refine AW_ct [] (AW_run hn0 1000 ?_)
        simp (maxSteps := 10000000) (disch := omega) only [go_sem, hadd, hadd', reduceIte, seval, -BitVec.isValue, -BitVec.reduceOfNat, -List.reduceReplicate]
        refine AW_lpW (Ls := fun c => Ls (c - 1)) (σ := σco2 f yl) (I := fun c => c ≤ m + 1) (μ := fun c => m + 2 - c) (i + 1 + 1) (by omega) (by omega) (Wk_l [] (hL0 _) ?_)
        simp only [go_sem, σco2, reduceIte, seval, -BitVec.isValue, -BitVec.reduceOfNat, -List.reduceReplicate]
        try simp
def otsCodesV : AV := .fn (.func 208) [] [.rop true [.i 1], .rop true [.u32 4026531840]]
theorem codes_fun : Fun Tryz.prog Gs 188 [.i 1, .u32 4026531840] otsCodesV := by
  refine Fun_cc [] mo Tryz.func188 (by decide) cc188 rs188 Tryz.ntmps188 (by simp) (AW_run CtOK_nil 1000 ?_)
  simp (maxSteps := 10000000) (disch := omega) only [go_sem, c188, otsCodesV, reduceIte, seval, -BitVec.isValue, -BitVec.reduceOfNat, -List.reduceReplicate]
theorem otsCodes_fun : Fun Tryz.prog Gs 137 [] otsCodesV := by
  have hct := ct1_ok codes_fun (CtOK_nil (P := Tryz.prog) (Gl := Gs))
  refine Fun_cc _ mo Tryz.func137 (by decide) cc137 rs137 Tryz.ntmps137 (by simp) (AW_run hct 1000 ?_)
  simp (maxSteps := 10000000) (disch := omega) only [go_sem, c137, ct1, otsCodesV, reduceIte, seval, -BitVec.isValue, -BitVec.reduceOfNat, -List.reduceReplicate]
def ctKNode1 (k : LK) : Nat × (List AV → R) := (134, AK3 (.agg (lk1 k)) fun (r : BitVec 32) (a b : By) => (LKf k ∧ a.length ≤ 1000000 ∧ b.length ≤ 1000000, Enc.ret (ndS k.o k.id r a b)))
theorem ctKNode1_ok {k : LK} {Ct : List (Nat × (List AV → R))} (h : CtOK Tryz.prog Gs Ct) : CtOK Tryz.prog Gs (ctKNode1 k :: Ct) := CtOK_cons (RowK3 fun r a b h => lnode1_fun k r a b h.1 h.2.1 h.2.2) h
def lndE (l : Lms) (r : BitVec 32) (a b : By) : Int := if lmsT l.code = some l then (if r < 1 ∨ pw l.h.toNat ≤ r.setWidth 64 ∨ ¬ (a.length : Int) = l.n ∨ ¬ (b.length : Int) = l.n then 1 else 0) else 60
def lndV (l : Lms) (id : By) (r : BitVec 32) (a b : By) : By := hsumS l.shake l.n.toNat (hdS id r ++ bigL 0x8383#64 2 ++ (a ++ b))
def lndR (l : Lms) (id : By) (r : BitVec 32) (a b : By) : AV := if lndE l r a b = 0 then .tup [Enc.ret (lndV l id r a b), .i 0] else nilE (lndE l r a b)
theorem lndV_nd {l : Lms} {o : Ots} (h : fitP l o) (id : By) (r : BitVec 32) (a b : By) : ndS o id r a b = lndV l id r a b := by
  rw [lndV, ndS, hO, h.2.2.1, h.2.2.2]
def hNd (l : Lms) (id : By) (r : BitVec 32) (a b : By) (x : AV) : List (Nat × Seg) :=
  [(6, ⟨[.i 0], true⟩), (5, ⟨[x], true⟩), (4, ⟨[Enc.enc b], true⟩), (3, ⟨[Enc.enc a], true⟩), (2, ⟨[.u32 r], true⟩), (1, ⟨id.map .u8, true⟩), (0, ⟨[.u32 l.code, .b l.shake, .i l.n, .i l.h], true⟩)]
set_option maxHeartbeats 8000000 in
theorem lNode_fun (l : Lms) (id : By) (r : BitVec 32) (a b : By) (hid : id.length = 16) : Fun Tryz.prog Gs 74 [Enc.enc l, Enc.enc (⟨id⟩ : Ar (BitVec 8)), Enc.enc r, Enc.enc a, Enc.enc b] (lndR l id r a b) := by
  have hit : id.take 16 = id := List.take_of_length_le (by omega)
  have hn0 := CtOK_nil (P := Tryz.prog) (Gl := Gs)
  by_cases hl : lmsT l.code = some l
  · have hlR : lmsR l.code = .tup [Enc.enc l, .i 0] := by rw [lmsR, hl]
    have hsm := lmsT_sm hl
    obtain ⟨g1, g2, g3, g4⟩ := hsm
    have hp1 := pw_one l.h.toNat
    have hp1' : (1#64) <<< l.h.toNat = pw l.h.toNat := hp1
    have hct := ctLms_ok (ct1_ok otsCodes_fun hn0)
    by_cases hE : lndE l r a b = 0
    · rw [lndR, if_pos hE]
      have hc : ¬ (r < 1 ∨ pw l.h.toNat ≤ r.setWidth 64 ∨ ¬ (a.length : Int) = l.n ∨ ¬ (b.length : Int) = l.n) := by
        intro e
        rw [lndE, if_pos hl, if_pos e] at hE; cases hE
      have c1 : ¬ r < 1 := fun e => hc (.inl e)
      have c2 : ¬ pw l.h.toNat ≤ r.setWidth 64 := fun e => hc (.inr (.inl e))
      have c3 : (a.length : Int) = l.n := Classical.byContradiction fun e => hc (.inr (.inr (.inl e)))
      have c4 : (b.length : Int) = l.n := Classical.byContradiction fun e => hc (.inr (.inr (.inr e)))
      have c1' : ¬ r < 1#32 := c1
      obtain ⟨m, hm, ⟨o, ho, hoc, hof⟩, hbefore⟩ := ots_first hl
      refine Fun_ccM [ctLms 136, ct1 137 [] otsCodesV] mo Tryz.func74 (by decide) cc74 rs74 Tryz.ntmps74 (by simp) fun E0 => AW_run hct 1000 ?_
      simp (maxSteps := 10000000) (disch := omega) only [go_sem, c74, ctLms, ct1, hlR, hid, hit, eqL, eq1, g1, hp1, hp1', eq_false c1, eq_false c1', eq_false c2, c3, c4, reduceIte, seval, -BitVec.isValue, -BitVec.reduceOfNat, -List.reduceReplicate]
      refine AW_wk (Wk_e (s' := ⟨[(54, otsCodesV), (5, .ptr 0 0), (6, .ptr 1 0), (7, .ptr 2 0), (8, .ptr 3 0), (9, .ptr 4 0), (10, .ptr 5 0), (11, .ptr 6 0)], hNd l id r a b .nils ++ [], 7⟩) [] (by simp) (by simp only [go_sem, hNd, otsCodesV, reduceIte, seval, -BitVec.isValue, -BitVec.reduceOfNat, -List.reduceReplicate]; try simp)) ?_
      have hfit := lndV_nd hof id r a b
      have hkf : LKf ⟨l, o, id, []⟩ := ⟨hof, hid⟩
      have hln := lmsT_n hl
      have ha : a.length ≤ 1000000 := by omega
      have hb : b.length ≤ 1000000 := by omega
      have hVl : (lndV l id r a b).length = o.n.toNat := by rw [← hfit]; exact ndS_len (otsT_ok hof.2.1) _ _ _ _
      have hct2 := ctOts_ok (ctFit_ok (ctKNode1_ok (k := ⟨l, o, id, []⟩) hn0))
      refine AW_rf (Cr := [ctOts, ctFit 139, ctKNode1 ⟨l, o, id, []⟩]) (Cx := []) [] (fun i => [.u32 (oc i)]) (fun i => if i ≤ m then hNd l id r a b .nils else hNd l id r a b (Enc.ret (lndV l id r a b))) (fun _ => 7) (some .ret) trivial mo (by simp only [go_sem, otsCodesV, reduceIte, seval, -BitVec.isValue, -BitVec.reduceOfNat, -List.reduceReplicate]) (codes1_iter 4026531840 m hm) rfl rfl (by simp only [go_sem, okx, okx.okxL, reduceIte, seval, -BitVec.isValue, -BitVec.reduceOfNat, -List.reduceReplicate]; try simp) (by simp [okH]) rfl rfl (by simp only [go_sem, otsCodesV, reduceIte, seval, -BitVec.isValue, -BitVec.reduceOfNat, -List.reduceReplicate]) (by decide)
        (fun i _ => rfl) (fun i hi => by simp [okx, okx.okxL]) (if_pos (Nat.zero_le _)) rfl (fun _ => Nat.le_refl _) (fun i hi => ?_) (fun e he => ?_) rfl (by simp) ?_
      · rw [if_pos (by omega : i ≤ m), if_pos (by omega : i + 1 ≤ m)]
        obtain ⟨o', ho', hoc', hof'⟩ := hbefore i hi
        have hR : otsR (oc i) = .tup [Enc.enc o', .i 0] := by rw [otsR, ho']
        refine AW_run hct2 1000 ?_
        simp (maxSteps := 10000000) (disch := omega) only [go_sem, hNd, reduceIte, seval, -BitVec.isValue, -BitVec.reduceOfNat, -List.reduceReplicate]
        refine AW_run hct2 1000 ?_
        simp (maxSteps := 10000000) (disch := omega) only [go_sem, hNd, ctOts, ctFit, hR, eq_false hof', decide_false, reduceIte, seval, -BitVec.isValue, -BitVec.reduceOfNat, -List.reduceReplicate]
        refine Wk_r [] (Nat.le_refl _) rfl ?_
        simp only [go_sem, hNd, reduceIte, seval, -BitVec.isValue, -BitVec.reduceOfNat, -List.reduceReplicate]
        try simp
      · cases he
        rw [if_pos (Nat.le_refl m), if_neg (by omega : ¬ m + 1 ≤ m)]
        have hR : otsR (oc m) = .tup [Enc.enc o, .i 0] := by rw [otsR, ho]
        refine AW_run hct2 1000 ?_
        simp (maxSteps := 10000000) (disch := omega) only [go_sem, hNd, reduceIte, seval, -BitVec.isValue, -BitVec.reduceOfNat, -List.reduceReplicate]
        refine AW_run hct2 1000 ?_
        simp (maxSteps := 10000000) (disch := omega) only [go_sem, hNd, ctOts, ctFit, ctKNode1, lk1, hR, hid, hit, eq_true hof, decide_true, hkf, ha, hb, hfit, hVl, reduceIte, seval, -BitVec.isValue, -BitVec.reduceOfNat, -List.reduceReplicate]
        refine Wk_r [] (Nat.le_refl _) rfl ?_
        simp only [go_sem, hNd, hVl, reduceIte, seval, -BitVec.isValue, -BitVec.reduceOfNat, -List.reduceReplicate]
        try simp
      · simp only [Option.isSome_some, if_true, if_neg (show ¬ m + 1 ≤ m by omega), jcode]
        refine AW_run hn0 100 ?_
        simp (maxSteps := 10000000) (disch := omega) only [go_sem, reduceIte, seval, -BitVec.isValue, -BitVec.reduceOfNat, -List.reduceReplicate]
        refine AW_doneAR ?_
        simp only [go_sem, hNd, hVl, reduceIte, seval, -BitVec.isValue, -BitVec.reduceOfNat, -List.reduceReplicate]
        try simp
    · have hc : r < 1 ∨ pw l.h.toNat ≤ r.setWidth 64 ∨ ¬ (a.length : Int) = l.n ∨ ¬ (b.length : Int) = l.n := Classical.byContradiction fun e => hE (by rw [lndE, if_pos hl, if_neg e])
      have hE1 : lndE l r a b = 1 := by rw [lndE, if_pos hl, if_pos hc]
      rw [lndR, if_neg hE, hE1]
      refine Fun_cc [ctLms 136, ct1 137 [] otsCodesV] mo Tryz.func74 (by decide) cc74 rs74 Tryz.ntmps74 (by simp) (AW_run hct 1000 ?_)
      by_cases c1 : r < 1
      · have c1' : r < 1#32 := c1
        simp (maxSteps := 10000000) (disch := omega) only [go_sem, c74, ctLms, ct1, hlR, hid, hit, eqL, eq1, eq_true c1, eq_true c1', nilE, reduceIte, seval, -BitVec.isValue, -BitVec.reduceOfNat, -List.reduceReplicate]
        rfl
      have c1' : ¬ r < 1#32 := c1
      by_cases c2 : pw l.h.toNat ≤ r.setWidth 64
      · simp (maxSteps := 10000000) (disch := omega) only [go_sem, c74, ctLms, ct1, hlR, hid, hit, eqL, eq1, g1, hp1, hp1', eq_false c1, eq_false c1', eq_true c2, nilE, reduceIte, seval, -BitVec.isValue, -BitVec.reduceOfNat, -List.reduceReplicate]
        rfl
      by_cases c3 : (a.length : Int) = l.n
      · have c4 : ¬ (b.length : Int) = l.n := by
          intro e
          rcases hc with h | h | h | h
          · exact c1 h
          · exact c2 h
          · exact h c3
          · exact h e
        simp (maxSteps := 10000000) (disch := omega) only [go_sem, c74, ctLms, ct1, hlR, hid, hit, eqL, eq1, g1, hp1, hp1', eq_false c1, eq_false c1', eq_false c2, eq_true c3, eq_false c4, nilE, reduceIte, seval, -BitVec.isValue, -BitVec.reduceOfNat, -List.reduceReplicate]
        rfl
      · simp (maxSteps := 10000000) (disch := omega) only [go_sem, c74, ctLms, ct1, hlR, hid, hit, eqL, eq1, g1, hp1, hp1', eq_false c1, eq_false c1', eq_false c2, eq_false c3, nilE, reduceIte, seval, -BitVec.isValue, -BitVec.reduceOfNat, -List.reduceReplicate]
        rfl
  · have hE : lndE l r a b = 60 := by rw [lndE, if_neg hl]
    rw [lndR, if_neg (by rw [hE]; decide), hE]
    have hct := ctLms_ok hn0
    refine Fun_cc [ctLms 136] mo Tryz.func74 (by decide) cc74 rs74 Tryz.ntmps74 (by simp) (AW_run hct 1000 ?_)
    cases h : lmsT l.code with
    | none =>
      simp (maxSteps := 10000000) (disch := omega) only [go_sem, c74, ctLms, lmsR, h, lms0, hid, hit, nilE, reduceIte, seval, -BitVec.isValue, -BitVec.reduceOfNat, -List.reduceReplicate]
      rfl
    | some x =>
      have e2 : ¬ (x.code = l.code ∧ x.shake = l.shake ∧ x.n = l.n ∧ x.h = l.h) := fun ⟨a, b, c, d⟩ => hl (by rw [h]; cases x; cases l; simp_all)
      have : (decide (x.code = l.code) && (decide (x.shake = l.shake) && (decide (x.n = l.n) && decide (x.h = l.h)))) = false := by
        simp only [← Bool.decide_and]; exact decide_eq_false e2
      simp (maxSteps := 10000000) (disch := omega) only [go_sem, c74, ctLms, lmsR, h, hid, hit, eqL, eq1, nilE, this, reduceIte, seval, -BitVec.isValue, -BitVec.reduceOfNat, -List.reduceReplicate]
      rfl
def ctLNodeF : Nat × (List AV → R) := (74, A5 fun (l : Lms) (id : Ar (BitVec 8)) (r : BitVec 32) (a b : By) => (id.l.length = 16, lndR l id.l r a b))
theorem ctLNodeF_ok {Ct : List (Nat × (List AV → R))} (h : CtOK Tryz.prog Gs Ct) : CtOK Tryz.prog Gs (ctLNodeF :: Ct) := CtOK_cons (Row5 fun l id r a b h => lNode_fun l id.l r a b h) h
end Go.Lv
namespace Go.Lv
open Go Go.Proofs
set_option linter.unusedSimpArgs false
set_option maxRecDepth 100000
theorem vS_lnd (l : Lms) (id : By) (r : BitVec 32) (a b : By) : vS l id (r.setWidth 64) 131 (a ++ b) = lndV l id r a b := by
  rw [vS, lndV, hdS]; rfl
set_option maxHeartbeats 4000000 in
theorem rNodeL_fun (l : Lms) (id : By) (r : BitVec 32) (a b : By) (hid : id.length = 16) (ha : a.length ≤ 1000000) (hb : b.length ≤ 1000000) : Fun Tryz.prog Gs 75 [Enc.enc l, Enc.enc (⟨id⟩ : Ar (BitVec 8)), Enc.enc r, Enc.enc a, Enc.enc b] (lndR l id r a b) := by
  have hit : id.take 16 = id := List.take_of_length_le (by omega)
  have hn0 := CtOK_nil (P := Tryz.prog) (Gl := Gs)
  have hct := mark_ok 44 (ctRMayLms_ok (ctLeaves_ok (ctRValue_ok hn0)))
  refine Fun_cc [mark 44, ctIsLms 140, ctLeaves, ctRValue] mo Tryz.func75 (by decide) cc75 rs75 Tryz.ntmps75 (by simp) (AW_run hct 1000 ?_)
  by_cases hl : lmsT l.code = some l
  · have hsm := lmsT_sm hl
    have hF : [a, b].flatten = a ++ b := by simp
    have hfl : (a ++ b).length ≤ 100000000 := by rw [List.length_append]; omega
    have hV := vS_lnd l id r a b
    by_cases c1 : r < 1
    · have c1' : r < 1#32 := c1
      have hE1 : lndE l r a b = 1 := by rw [lndE, if_pos hl, if_pos (.inl c1)]
      rw [lndR, if_neg (by rw [hE1]; decide), hE1]
      simp (maxSteps := 10000000) (disch := omega) only [go_sem, c75, mark, ctIsLms, ctLeaves, ctRValue, hid, hit, eq_true hl, decide_true, hsm, eq_true c1, eq_true c1', nilE, reduceIte, seval, -BitVec.isValue, -BitVec.reduceOfNat, -List.reduceReplicate]
      try simp
    have c1' : ¬ r < 1#32 := c1
    by_cases c2 : pw l.h.toNat ≤ r.setWidth 64
    · have hE1 : lndE l r a b = 1 := by rw [lndE, if_pos hl, if_pos (.inr (.inl c2))]
      rw [lndR, if_neg (by rw [hE1]; decide), hE1]
      simp (maxSteps := 10000000) (disch := omega) only [go_sem, c75, mark, ctIsLms, ctLeaves, ctRValue, hid, hit, eq_true hl, decide_true, hsm, eq_false c1, eq_false c1', eq_true c2, nilE, reduceIte, seval, -BitVec.isValue, -BitVec.reduceOfNat, -List.reduceReplicate]
      try simp
    by_cases c3 : (a.length : Int) = l.n
    · by_cases c4 : (b.length : Int) = l.n
      · have hE0 : lndE l r a b = 0 := by
          rw [lndE, if_pos hl, if_neg]
          rintro (h | h | h | h)
          · exact c1 h
          · exact c2 h
          · exact h c3
          · exact h c4
        rw [lndR, if_pos hE0]
        simp (maxSteps := 10000000) (disch := omega) only [go_sem, c75, mark, ctIsLms, ctLeaves, ctRValue, hid, hit, eq_true hl, decide_true, hsm, eq_false c1, eq_false c1', eq_false c2, eq_true c3, eq_true c4, hF, hfl, hV, deL_cons, deL_nil, reduceIte, seval, -BitVec.isValue, -BitVec.reduceOfNat, -List.reduceReplicate]
        try simp
      · have hE1 : lndE l r a b = 1 := by rw [lndE, if_pos hl, if_pos (.inr (.inr (.inr c4)))]
        rw [lndR, if_neg (by rw [hE1]; decide), hE1]
        simp (maxSteps := 10000000) (disch := omega) only [go_sem, c75, mark, ctIsLms, ctLeaves, ctRValue, hid, hit, eq_true hl, decide_true, hsm, eq_false c1, eq_false c1', eq_false c2, eq_true c3, eq_false c4, nilE, reduceIte, seval, -BitVec.isValue, -BitVec.reduceOfNat, -List.reduceReplicate]
        try simp
    · have hE1 : lndE l r a b = 1 := by rw [lndE, if_pos hl, if_pos (.inr (.inr (.inl c3)))]
      rw [lndR, if_neg (by rw [hE1]; decide), hE1]
      simp (maxSteps := 10000000) (disch := omega) only [go_sem, c75, mark, ctIsLms, ctLeaves, ctRValue, hid, hit, eq_true hl, decide_true, hsm, eq_false c1, eq_false c1', eq_false c2, eq_false c3, nilE, reduceIte, seval, -BitVec.isValue, -BitVec.reduceOfNat, -List.reduceReplicate]
      try simp
  · have hE : lndE l r a b = 60 := by rw [lndE, if_neg hl]
    rw [lndR, if_neg (by rw [hE]; decide), hE]
    simp (maxSteps := 10000000) (disch := omega) only [go_sem, c75, mark, ctIsLms, ctLeaves, ctRValue, hid, hit, eq_false hl, decide_false, nilE, reduceIte, seval, -BitVec.isValue, -BitVec.reduceOfNat, -List.reduceReplicate]
    try simp
def ctRNodeL : Nat × (List AV → R) := (75, A5 fun (l : Lms) (id : Ar (BitVec 8)) (r : BitVec 32) (a b : By) => (id.l.length = 16 ∧ a.length ≤ 1000000 ∧ b.length ≤ 1000000, lndR l id.l r a b))
theorem ctRNodeL_ok {Ct : List (Nat × (List AV → R))} (h : CtOK Tryz.prog Gs Ct) : CtOK Tryz.prog Gs (ctRNodeL :: Ct) := CtOK_cons (Row5 fun l id r a b h => rNodeL_fun l id.l r a b h.1 h.2.1 h.2.2) h
set_option maxHeartbeats 8000000 in
theorem LmNodes_fun (k : LK) (q : BitVec 32) (a b : By) (hi : k.id.length = 16) (hsd : k.sd.length ≤ 140737488351232) (hau : a.length ≤ 140737488351232) (hbu : b.length ≤ 140737488351232) : Fun Tryz.prog Gs 13 [.agg (lkC k), Enc.enc q, Enc.enc a, Enc.enc b] (.b true) := by
  have hit : k.id.take 16 = k.id := List.take_of_length_le (by omega)
  have hct := ctLlive_ok (ctFewK_ok hi (ctRMayLeaf_ok (ctLLeaf_ok (ctRLLeaf_ok (ctLNodeF_ok (ctRNodeL_ok (ctEqual_ok (CtOK_nil (P := Tryz.prog) (Gl := Gs)))))))))
  refine Fun_cc [ctLlive, ct1 41 [.agg (lkC k)] (.b (fewB k)), ctRMayLeaf, ctLLeaf, ctRLLeaf, ctLNodeF, ctRNodeL, ctEqual] mo Tryz.func13 (by decide) cc13 rs13 Tryz.ntmps13 (by simp) (AW_run hct 1000 ?_)
  cases hF : fewB k with
  | false =>
    simp (maxSteps := 10000000) (disch := omega) only [go_sem, c13, ctLlive, ct1, lkC, hi, hit, hF, reduceIte, seval, -BitVec.isValue, -BitVec.reduceOfNat, -List.reduceReplicate]
  | true =>
    by_cases ha : (100 : Int) < a.length
    · simp (maxSteps := 10000000) (disch := omega) only [go_sem, c13, ctLlive, ct1, lkC, hi, hit, hF, eq_true ha, reduceIte, seval, -BitVec.isValue, -BitVec.reduceOfNat, -List.reduceReplicate]
    by_cases hb : (100 : Int) < b.length
    · simp (maxSteps := 10000000) (disch := omega) only [go_sem, c13, ctLlive, ct1, lkC, hi, hit, hF, eq_false ha, eq_true hb, reduceIte, seval, -BitVec.isValue, -BitVec.reduceOfNat, -List.reduceReplicate]
    have ha1 : a.length ≤ 1000000 := by omega
    have hb1 : b.length ≤ 1000000 := by omega
    have hN : ∃ y g, lndR k.l k.id q a b = .tup [Enc.ret (y : By), .i g] := by
      rw [lndR]
      split
      · exact ⟨_, _, rfl⟩
      · exact ⟨[], _, rfl⟩
    obtain ⟨y, g, hy⟩ := hN
    by_cases h0 : atE k.l k.o k.sd q = 0
    · obtain ⟨h1, hk, hq⟩ := atE_ok h0 hi
      have hk' : LKok ⟨k.l, k.o, k.id, k.sd⟩ := hk
      have hL : leafR k.l k.o k.id k.sd q = .tup [Enc.ret (lnode k 0 q.toNat), .i 0] := by rw [leafR, if_pos h0]
      simp (maxSteps := 10000000) (disch := omega) only [go_sem, c13, ctLlive, ct1, ctRMayLeaf, ctLLeaf, ctRLLeaf, ctLNodeF, ctRNodeL, ctEqual, lkC, hi, hit, hF, hsd, eq_false ha, eq_false hb, ha1, hb1, h0, hk', hq, hL, hy, reduceIte, seval, -BitVec.isValue, -BitVec.reduceOfNat, -List.reduceReplicate]
      try simp
    · obtain ⟨e, he⟩ : ∃ e, e = atE k.l k.o k.sd q := ⟨_, rfl⟩
      have hL : leafR k.l k.o k.id k.sd q = nilE e := by rw [leafR, if_neg h0, he]
      rw [← he] at h0
      simp (maxSteps := 10000000) (disch := omega) only [go_sem, c13, ctLlive, ct1, ctRMayLeaf, ctLLeaf, ctRLLeaf, ctLNodeF, ctRNodeL, ctEqual, lkC, hi, hit, hF, hsd, eq_false ha, eq_false hb, ha1, hb1, ← he, eq_false h0, hL, hy, nilE, reduceIte, seval, -BitVec.isValue, -BitVec.reduceOfNat, -List.reduceReplicate]
      try simp
end Go.Lv
namespace Go.Lv
open Go Go.Proofs
set_option linter.unusedSimpArgs false
set_option maxRecDepth 100000
theorem lN_start {H : Nat} (hH : H ≤ 25) (q : BitVec 32) (hq : q.toNat < 2 ^ H) : (1 : BitVec 32) <<< H + q = lN H 0 q.toNat := by
  have h25 : 2 ^ H ≤ 2 ^ 25 := Nat.pow_le_pow_right (n := 2) (by omega) hH
  apply BitVec.eq_of_toNat_eq
  rw [lN, BitVec.toNat_add, BitVec.toNat_shiftLeft, BitVec.toNat_ofNat, Nat.shiftLeft_eq, show (1 : BitVec 32).toNat = 1 from rfl, Nat.sub_zero]
  omega
theorem lN_odd {H q j : Nat} (hH : H ≤ 25) (hq : q < 2 ^ H) (hj : j < H) : (lN H j (q / 2 ^ j) % 2#32 = 1#32 ↔ ¬ q / 2 ^ j % 2 = 0) := by
  have h25 : 2 ^ H ≤ 2 ^ 25 := Nat.pow_le_pow_right (n := 2) (by omega) hH
  have hp : 2 ^ (H - j) ≤ 2 ^ H := Nat.pow_le_pow_right (n := 2) (by omega) (by omega)
  have hd : q / 2 ^ j ≤ q := Nat.div_le_self _ _
  have h2 : 2 ^ (H - j) = 2 * 2 ^ (H - (j + 1)) := by rw [show H - j = (H - (j + 1)) + 1 by omega, Nat.pow_succ, Nat.mul_comm]
  have m1 : (2 ^ (H - j) + q / 2 ^ j) % 2 ^ 32 = 2 ^ (H - j) + q / 2 ^ j := Nat.mod_eq_of_lt (by omega)
  have e3 : (2#32).toNat = 2 := rfl
  have e4 : (1#32).toNat = 1 := rfl
  constructor
  · intro h
    have := congrArg BitVec.toNat h
    rw [lN, BitVec.toNat_umod, e3, BitVec.toNat_ofNat, m1, e4] at this
    omega
  · intro h
    apply BitVec.eq_of_toNat_eq
    rw [lN, BitVec.toNat_umod, e3, BitVec.toNat_ofNat, m1, e4]
    omega
theorem lN_in {H q j : Nat} (hH : H ≤ 25) (hq : q < 2 ^ H) (hj : j < H) : ¬ lN H (j + 1) (q / 2 ^ (j + 1)) < 1#32 ∧ ¬ pw H ≤ (lN H (j + 1) (q / 2 ^ (j + 1))).setWidth 64 := by
  have h25 : 2 ^ H ≤ 2 ^ 25 := Nat.pow_le_pow_right (n := 2) (by omega) hH
  have hp0 : 0 < 2 ^ (H - (j + 1)) := Nat.pow_pos (by omega)
  have hd : q / 2 ^ (j + 1) < 2 ^ (H - (j + 1)) := by
    rw [Nat.div_lt_iff_lt_mul (Nat.pow_pos (by omega)), ← Nat.pow_add, show H - (j + 1) + (j + 1) = H by omega]; exact hq
  have h2 : 2 ^ (H - (j + 1)) * 2 ≤ 2 ^ H := by rw [← Nat.pow_succ]; exact Nat.pow_le_pow_right (n := 2) (by omega) (by omega)
  have m1 : (lN H (j + 1) (q / 2 ^ (j + 1))).toNat = 2 ^ (H - (j + 1)) + q / 2 ^ (j + 1) := by rw [lN, BitVec.toNat_ofNat]; exact Nat.mod_eq_of_lt (by omega)
  refine ⟨?_, ?_⟩
  · rw [BitVec.lt_def, m1, show (1#32).toNat = 1 from rfl]; exact Nat.not_lt.2 (Nat.le_trans hp0 (Nat.le_add_right _ _))
  · rw [pw_le hH, m1]; omega
def σlup (k : LK) (q j : Nat) : St :=
  ⟨[(2, .ptr 0 0), (5, Enc.enc (lnode k j (q / 2 ^ j))), (7, Enc.enc (lpath k q k.l.h.toNat)), (9, Enc.enc (lroot k)), (10, .u32 (lN k.l.h.toNat j (q / 2 ^ j))), (90, .i k.l.h), (91, .i j)], [(0, ⟨lkC k, true⟩)], 1⟩
set_option maxHeartbeats 8000000 in
theorem LmUp_fun (k : LK) (q : BitVec 32) (hi : k.id.length = 16) (hsd : k.sd.length ≤ 140737488351232) : Fun Tryz.prog Gs 14 [.agg (lkC k), Enc.enc q] (.b true) := by
  have hit : k.id.take 16 = k.id := List.take_of_length_le (by omega)
  have hn0 := CtOK_nil (P := Tryz.prog) (Gl := Gs)
  have hct := ctLlive_ok (ctFewK_ok hi (ctLLeaf_ok (ctLPath_ok (ctLRoot_ok hn0))))
  refine Fun_cc [ctLlive, ct1 41 [.agg (lkC k)] (.b (fewB k)), ctLLeaf, ctLPath, ctLRoot] mo Tryz.func14 (by decide) cc14 rs14 Tryz.ntmps14 (by simp) (AW_run hct 1000 ?_)
  cases hF : fewB k with
  | false =>
    simp (maxSteps := 10000000) (disch := omega) only [go_sem, c14, ctLlive, ct1, lkC, hi, hit, hF, reduceIte, seval, -BitVec.isValue, -BitVec.reduceOfNat, -List.reduceReplicate]
  | true =>
    have hfH := fun h => few_H' hF h
    have hfI : mdE k.l k.o k.sd = 0 → k.l.h ≤ 4 := fun h => by have := hfH h; omega
    have hfJ := eq_true hfI
    have hfL := eq_true hfH
    by_cases h0 : atE k.l k.o k.sd q = 0
    · obtain ⟨h1, hk, hq⟩ := atE_ok h0 hi
      have hk : LKok k := hk
      have hq : q.toNat < 2 ^ k.l.h.toNat := hq
      have hH := hfH h1
      have hHI := hfI h1
      have hon := hk.o.n
      have hkn := hk.n
      have hs := hk.sm
      have hL : leafR k.l k.o k.id k.sd q = .tup [Enc.ret (lnode k 0 q.toNat), .i 0] := by rw [leafR, if_pos h0]
      have hP : pathR k.l k.o k.id k.sd q = .tup [Enc.ret (lpath k q.toNat k.l.h.toNat), .i 0] := by rw [pathR, if_pos h0]
      have hR : rootR k.l k.o k.id k.sd = .tup [Enc.ret (lroot k), .i 0] := by rw [rootR, if_pos h1]
      have hpl := lpath_len hk q.toNat k.l.h.toNat
      have q0 : k.l.h * k.l.n = ((k.l.h.toNat * k.o.n.toNat : Nat) : Int) := by rw [Int.natCast_mul, hkn, show (k.l.h.toNat : Int) = k.l.h by omega, show (k.o.n.toNat : Int) = k.o.n by omega]
      have hm4 : k.l.h.toNat * k.o.n.toNat ≤ 4 * 32 := Nat.mul_le_mul (by omega) (by omega)
      have hst := lN_start (H := k.l.h.toNat) (by omega) q hq
      have hst' : (1#32) <<< k.l.h.toNat + q = lN k.l.h.toNat 0 q.toNat := hst
      have hrl := lroot_len hk
      have hnl0 := lnode_len hk 0 q.toNat
      simp (maxSteps := 10000000) (disch := omega) only [go_sem, c14, ctLlive, ct1, ctLLeaf, ctLPath, ctLRoot, lkC, hi, hit, hF, hsd, h0, h1, hH, hHI, hL, hP, hR, hpl, q0, hst, hst', hs.1, hrl, hnl0, reduceIte, seval, -BitVec.isValue, -BitVec.reduceOfNat, -List.reduceReplicate]
      refine AW_loop (σlup k q.toNat) (fun j => j ≤ k.l.h.toNat) (fun j => k.l.h.toNat - j) 0 (Nat.zero_le _) (Wk_uf 99 [5, 7, 9] (Wk_p [] ?_)) fun j hj => ?_
      · have e0 : lnode k 0 (q.toNat / 2 ^ 0) = lnode k 0 q.toNat := by simp
        have e1 : lN k.l.h.toNat 0 (q.toNat / 2 ^ 0) = lN k.l.h.toNat 0 q.toNat := by simp
        simp only [go_sem, σlup, ufF, ufH, e0, e1, lkC, hrl, hpl, hnl0, reduceIte, seval, -BitVec.isValue, -BitVec.reduceOfNat, -List.reduceReplicate]
        try simp
      · have hnl := lnode_len hk j (q.toNat / 2 ^ j)
        by_cases hc : j < k.l.h.toNat
        · have hcI : (j : Int) < k.l.h := by omega
          obtain ⟨s1, _⟩ := lN_step (H := k.l.h.toNat) (q := q.toNat) (j := j) (by omega) hq hc
          have s1' : lN k.l.h.toNat j (q.toNat / 2 ^ j) / (2 : BitVec 32) = lN k.l.h.toNat (j + 1) (q.toNat / 2 ^ (j + 1)) := s1
          have s2 := lN_odd (H := k.l.h.toNat) (q := q.toNat) (j := j) (by omega) hq hc
          obtain ⟨i1, i2⟩ := lN_in (H := k.l.h.toNat) (q := q.toNat) (j := j) (by omega) hq hc
          have hroom : j * k.o.n.toNat + k.o.n.toNat ≤ k.l.h.toNat * k.o.n.toNat := by rw [← Nat.succ_mul]; exact Nat.mul_le_mul_right _ (by omega)
          have q1 : (j : Int) * k.l.n = ((j * k.o.n.toNat : Nat) : Int) := by rw [Int.natCast_mul, hkn, show (k.o.n.toNat : Int) = k.o.n by omega]
          have q2 : ((j : Int) + 1) * k.l.n = ((j * k.o.n.toNat + k.o.n.toNat : Nat) : Int) := by rw [Int.add_mul, q1, Int.one_mul]; omega
          have q3 : j * k.o.n.toNat + k.o.n.toNat - j * k.o.n.toNat = k.o.n.toNat := by omega
          have hsp : ((lpath k q.toNat k.l.h.toNat).drop (j * k.o.n.toNat)).take k.o.n.toNat = lsib k.o.n.toNat (lpath k q.toNat k.l.h.toNat) j := rfl
          have hsl := lsib_len k.o.n.toNat (lpath k q.toNat k.l.h.toNat) j (by rw [Nat.succ_mul]; omega)
          have h16 : 2 ^ k.l.h.toNat ≤ 2 ^ 4 := Nat.pow_le_pow_right (n := 2) (by omega) hH
          have n1 := lclimb_node hk q.toNat (by omega) j (by omega)
          have n2 := lclimb_node hk q.toNat (by omega) (j + 1) (by omega)
          rw [lclimb, n1] at n2
          have e1 : lmsT k.l.code = some k.l := hk.lm
          have hln : k.l.n = (k.o.n.toNat : Int) := by omega
          obtain ⟨sb, hsb⟩ : ∃ sb, sb = lsib k.o.n.toNat (lpath k q.toNat k.l.h.toNat) j := ⟨_, rfl⟩
          obtain ⟨cur, hcur⟩ : ∃ cur, cur = lnode k j (q.toNat / 2 ^ j) := ⟨_, rfl⟩
          rw [← hsb] at hsp hsl n2
          rw [← hcur] at hnl n2
          have z : ∀ x y : By, x.length = k.o.n.toNat → y.length = k.o.n.toNat → lndR k.l k.id (lN k.l.h.toNat (j + 1) (q.toNat / 2 ^ (j + 1))) x y = .tup [Enc.ret (ndS k.o k.id (lN k.l.h.toNat (j + 1) (q.toNat / 2 ^ (j + 1))) x y), .i 0] := by
            intro x y hx hy
            have hE : lndE k.l (lN k.l.h.toNat (j + 1) (q.toNat / 2 ^ (j + 1))) x y = 0 := by
              rw [lndE, if_pos e1, if_neg]
              rintro (h | h | h | h)
              · exact i1 h
              · exact i2 h
              · exact h (by omega)
              · exact h (by omega)
            rw [lndR, if_pos hE, lndV_nd hk.f]
          have hct2 := ctLNodeF_ok hn0
          have hN2 := lnode_len hk (j + 1) (q.toNat / 2 ^ (j + 1))
          by_cases he : q.toNat / 2 ^ j % 2 = 0
          · have s3 : ¬ lN k.l.h.toNat j (q.toNat / 2 ^ j) % 2#32 = 1#32 := fun e => s2.1 e he
            have s3' : ¬ lN k.l.h.toNat j (q.toNat / 2 ^ j) % (2 : BitVec 32) = 1#32 := s3
            rw [if_pos he] at n2
            have hz := z cur sb hnl hsl
            rw [n2] at hz
            refine AW_ct [ctLNodeF] (AW_run hct2 1000 ?_)
            simp (maxSteps := 10000000) (disch := omega) only [go_sem, σlup, lkC, ← hcur, hcI, q1, q2, q3, hsp, hsl, hnl, hpl, hi, hit, ctLNodeF, eq_false s3, eq_false s3', s1, s1', hz, reduceIte, seval, -BitVec.isValue, -BitVec.reduceOfNat, -List.reduceReplicate]
            refine ⟨j + 1, by omega, Wk_uf 99 [5] (Wk_p [] ?_), by omega⟩
            simp only [go_sem, σlup, ufF, ufH, lkC, hN2, reduceIte, seval, -BitVec.isValue, -BitVec.reduceOfNat, -List.reduceReplicate]
            try simp
          · have s3 := s2.2 he
            have s3' : lN k.l.h.toNat j (q.toNat / 2 ^ j) % (2 : BitVec 32) = 1#32 := s3
            rw [if_neg he] at n2
            have hz := z sb cur hsl hnl
            rw [n2] at hz
            refine AW_ct [ctLNodeF] (AW_run hct2 1000 ?_)
            simp (maxSteps := 10000000) (disch := omega) only [go_sem, σlup, lkC, ← hcur, hcI, q1, q2, q3, hsp, hsl, hnl, hpl, hi, hit, ctLNodeF, s3, s3', s1, s1', hz, reduceIte, seval, -BitVec.isValue, -BitVec.reduceOfNat, -List.reduceReplicate]
            refine ⟨j + 1, by omega, Wk_uf 99 [5] (Wk_p [] ?_), by omega⟩
            simp only [go_sem, σlup, ufF, ufH, lkC, hN2, reduceIte, seval, -BitVec.isValue, -BitVec.reduceOfNat, -List.reduceReplicate]
            try simp
        · have hge : j = k.l.h.toNat := by omega
          have hcI : ¬ (j : Int) < k.l.h := by omega
          have hcI2 : ¬ ((k.l.h.toNat : Nat) : Int) < k.l.h := by omega
          subst hge
          have hroot : lnode k k.l.h.toNat (q.toNat / 2 ^ k.l.h.toNat) = lroot k := by rw [Nat.div_eq_of_lt hq]; rfl
          have hct3 := ctEqual_ok hn0
          refine AW_ct [ctEqual] (AW_run hct3 1000 ?_)
          simp (maxSteps := 10000000) (disch := omega) only [go_sem, σlup, hcI, hcI2, ctEqual, hroot, lkC, reduceIte, seval, -BitVec.isValue, -BitVec.reduceOfNat, -List.reduceReplicate]
          try simp
    · obtain ⟨e, he⟩ : ∃ e, e = atE k.l k.o k.sd q := ⟨_, rfl⟩
      have hL : leafR k.l k.o k.id k.sd q = nilE e := by rw [leafR, if_neg h0, he]
      have hP : pathR k.l k.o k.id k.sd q = nilE e := by rw [pathR, if_neg h0, he]
      rw [← he] at h0
      simp (maxSteps := 10000000) (disch := omega) only [go_sem, c14, ctLlive, ct1, ctLLeaf, ctLPath, ctLRoot, lkC, hi, hit, hF, hsd, ← he, eq_false h0, hfJ, hfL, hL, hP, nilE, reduceIte, seval, -BitVec.isValue, -BitVec.reduceOfNat, -List.reduceReplicate]
      try simp
end Go.Lv
