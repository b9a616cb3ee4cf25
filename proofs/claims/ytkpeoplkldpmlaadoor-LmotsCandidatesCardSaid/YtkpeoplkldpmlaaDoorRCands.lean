/- The law LmotsCandidates: the candidate key out of a signature, as the reference says. -/
import Derived.Test.YtkpeoplkldpmlaaDoorZj
import Derived.Test.YtkpeoplkldpmlaaDoorRf
set_option linter.all false
namespace Go.Proofs.YtkpeoplkldpmlaaDoor
open Go.ChangeShapes Go.WideShapes Go.ChangeAt Go.RowKit Go.Lv

set_option maxRecDepth 100000 in
theorem lmotsCandidates_lifted (os : Os) (started : os.Started) (H : Type) (enc : TypeId × Value → H) :
    ReturnsInHanded {} Tryd.checked os 11 .any (fun w args => (Rows.lmotsCandidatesSpec.pre enc Tryd.prog Tryd.f11 [] false w args ∧ laidMetH Tryd.prog laidL w) ∧ sizedMet enc Tryd.prog Tryd.f11 (OpenSpec.ofChange Rows.lmotsCandidatesSpec) false w args)
      (Rows.lmotsCandidatesSpec.post enc Tryd.prog Tryd.f11 false true false false) := by
  refine returnsInHanded_of_change_and (C := Tryd.checked) (X := fun w _ => laidMetH Tryd.prog laidL w) (fun _ _ _ hh h => h.of_heap hh) Tryd.own started (by kernel_rfl) Tryd.func11
    (ChangeSpec.witness_shaped (enc := enc) (C := Tryd.checked) (os := os) (X := fun w _ => laidMetH Tryd.prog laidL w) false (World.doorLaid Tryd.prog 4000 os) #[.agg #[.int .u32 0, .int .u8 0, .int .u8 0, .int .u8 0, .int .u8 0, .int .u8 0, .int .u8 0, .int .u8 0, .int .u8 0, .int .u8 0, .int .u8 0, .int .u8 0, .int .u8 0, .int .u8 0, .int .u8 0, .int .u8 0, .int .u8 0, .int .u32 0, .slice none 0 0], .slice none 0 0, .slice none 0 0] 8 rfl (World.shaped_of_RefB (by kernel_rfl) (by kernel_rfl)) (by kernel_rfl) (by kernel_rfl) (by kernel_rfl) (door_met os _)) ?_
  intro W base args ds gs before hval hW _ hz hL _
  have hW' := hW
  obtain ⟨p, q, hA, hV, rfl, hfz, hnd⟩ := hW
  rw [Tryd.params11] at hA
  obtain ⟨v0, v1, v2, d0, d1, d2, p0, p1, p2, e1, rfl, rfl, h0, h1, h2⟩ := trodAll_three hA
  obtain ⟨rfl, rfl⟩ := trodVars_none hV
  have hwt : ∀ (j : Nat) (t : TypeId) (d : DataW H), (Tryd.f11.params.toList ++ DataSpec.varTypes Tryd.checked.prog Rows.lmotsCandidatesSpec.plain)[j]? = some t → ([d0, d1, d2] ++ [])[j]? = some d → ∀ n ∈ d.weights Tryd.prog t, n ≤ reachBytes :=
    fun j t d ht hd n hn => of_decide_eq_true (List.all_eq_true.1 hz n (DataW.weights_mem_each ht hd n hn))
  obtain ⟨x0, ⟨a0, b0, k0⟩, g0⟩ := arg_agg (.inl ⟨_, Tryd.underlying37⟩) op37 (hval 0 37 v0 rfl (by rw [e1]; rfl)) h0 (hwt 0 37 d0 rfl rfl)
  obtain ⟨x1, ⟨a1, ⟨_, b1⟩, k1⟩, g1⟩ := arg_one (.inr (.inr ⟨_, Tryd.underlying25⟩)) op25 (hval 1 25 v1 rfl (by rw [e1]; rfl)) h1 (hwt 1 25 d1 rfl rfl)
  obtain ⟨x2, ⟨a2, ⟨_, b2⟩, k2⟩, g2⟩ := arg_one (.inr (.inr ⟨_, Tryd.underlying25⟩)) op25 (hval 2 25 v2 rfl (by rw [e1]; rfl)) h2 (hwt 2 25 d2 rfl rfl)
  simp only [List.cons.injEq, and_true] at k1 k2
  subst k0 k1 k2
  refine (law_callsG (LCands_fun a0 a1 a2 b0 (by omega) (by omega)) (of_laid hL) ?_).mono fun e W' ⟨he, hb⟩ => ⟨_, he, post_law rfl hW' rfl rfl rfl rfl Tryd.underlying4 hb Tryd.laidOut ?_⟩
  · rw [e1]; simp only [GL]; exact ⟨_, _, rfl, g0, _, _, rfl, g1, _, _, rfl, g2, rfl⟩
  · rw [Tryd.params11]; decide +kernel

theorem lmotsCandidates_f1 : (Rows.lmotsCandidatesRow.inPlace == Tryd.prog.inPlace 11) = true := by kernel_rfl
theorem lmotsCandidates_f2 : (Rows.lmotsCandidatesRow.unfollowed == Tryd.prog.unfollowed 11) = true := by kernel_rfl
theorem lmotsCandidates_f3 : (Rows.lmotsCandidatesRow.recurses == Tryd.prog.recurses 11) = true := by kernel_rfl
theorem lmotsCandidates_f4 : (Rows.lmotsCandidatesRow.named == Tryd.prog.varsNamed 11) = true := by kernel_rfl
theorem lmotsCandidates_f5 : Rows.lmotsCandidatesRow.wf (OpenSpec.ofChange Rows.lmotsCandidatesSpec) = true := by kernel_rfl
theorem lmotsCandidates_joined : joinedFacts Tryd.prog 11 Tryd.f11 Rows.lmotsCandidatesSpec Rows.lmotsCandidatesRow = true :=
  joined_cut fWords fLays fRefl fDoor lmotsCandidates_f5 Tryd.laidOut fRowed (by kernel_rfl) (by kernel_rfl) (by kernel_rfl) fStops (by kernel_rfl) fKnobs lmotsCandidates_f1 lmotsCandidates_f2 lmotsCandidates_f3 lmotsCandidates_f4
    (by kernel_rfl) (by kernel_rfl) (by kernel_rfl) (by kernel_rfl) (by kernel_rfl) (by kernel_rfl) (by kernel_rfl) (by kernel_rfl) (by kernel_rfl) fPlain (by kernel_rfl) (by kernel_rfl) fHeard (by kernel_rfl) rfl (by kernel_rfl) (by kernel_rfl) (by kernel_rfl) (by kernel_rfl)
theorem lmotsCandidates_named : Tryd.prog.funcNamed Rows.lmotsCandidatesRow.func = some 11 := by kernel_rfl
theorem lmotsCandidates_row : Rows.LmotsCandidatesSaid :=
  OpenClaim.holds_of_wide 11 Tryd.f11 rfl rfl rfl rfl rfl rfl rfl ⟨rfl, rfl, rfl, rfl, rfl⟩ rfl rfl rfl rfl rfl lmotsCandidates_named Tryd.func11 lmotsCandidates_joined
    (of_decide_eq_true (by kernel_rfl)) (by unfold Func.isWrapper; first | (rw [if_pos (by decide +kernel)]; kernel_rfl) | (rw [if_neg (by decide +kernel)]; exact ⟨rfl, rfl⟩))
    (fun os started H enc _ => lmotsCandidates_lifted os started H enc)

theorem lmotsCandidates_goes : false = Rows.lmotsCandidatesRow.goesBy Tryd.prog := by kernel_rfl
theorem lmotsCandidates_wft : Rows.lmotsCandidatesRow.wfByText (OpenSpec.ofChange Rows.lmotsCandidatesSpec) = true := by kernel_rfl
theorem lmotsCandidates_holds : Rows.LmotsCandidatesCardSaid :=
  Claim7.holds_tied_plain_at .later [] [.data, .data] true (true, "530b832309f3b2e7f5e250f4f225ada94d81113330c8d916f60228bf50ddf04d") false
    lmotsCandidates_row (fun _ h => by cases h) lmotsCandidates_wft (fun _ h => by cases h) lmotsCandidates_row_tie rfl ⟨rfl, rfl⟩ fMain rfl
    (fun f fn hf hfn => by
      obtain rfl : f = 11 := Option.some.inj (lmotsCandidates_named.symm.trans hf) |>.symm
      obtain rfl : fn = Tryd.f11 := (Option.some.inj (Tryd.func11.symm.trans hfn)).symm
      exact ⟨fLooks, fun j t ht => by
        rw [Tryd.params11] at ht
        have hm : t ∈ [37, 25, 25] := by simpa using Array.mem_of_getElem? ht
        have hall : ([37, 25, 25].all fun u => !Tryd.prog.wantsStandIn u) = true := by kernel_rfl
        exact (show Tryd.prog.wantsStandIn t = false by simpa using List.all_eq_true.1 hall t hm)⟩)
    lmotsCandidates_goes
#print axioms lmotsCandidates_holds
end Go.Proofs.YtkpeoplkldpmlaaDoor
