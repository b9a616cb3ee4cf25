/- LmotsSteps: for every leaf, way, middle and text the law returns true and leaves its arguments as they were. Condition: the variables of package sha2 read as their initialisers lay them, which the card ties to the text. -/
import Derived.Test.YtkpeoplkldpmlaaDoorZf
import Derived.Test.YtkpeoplkldpmlaaDoorRf
set_option linter.all false
namespace Go.Proofs.YtkpeoplkldpmlaaDoor
open Go.ChangeShapes Go.WideShapes Go.ChangeAt Go.RowKit Go.Lv

set_option maxRecDepth 100000 in
theorem lmotsSteps_lifted (os : Os) (started : os.Started) (H : Type) (enc : TypeId × Value → H) :
    ReturnsInHanded {} Tryd.checked os 5 .any (fun w args => (Rows.lmotsStepsSpec.pre enc Tryd.prog Tryd.f5 [] false w args ∧ laidMetH Tryd.prog laidL w) ∧ sizedMet enc Tryd.prog Tryd.f5 (OpenSpec.ofChange Rows.lmotsStepsSpec) false w args)
      (Rows.lmotsStepsSpec.post enc Tryd.prog Tryd.f5 false true false false) := by
  refine returnsInHanded_of_change_and (C := Tryd.checked) (X := fun w _ => laidMetH Tryd.prog laidL w) (fun _ _ _ hh h => h.of_heap hh) Tryd.own started (by kernel_rfl) Tryd.func5
    (ChangeSpec.witness_shaped (enc := enc) (C := Tryd.checked) (os := os) (X := fun w _ => laidMetH Tryd.prog laidL w) false (World.doorLaid Tryd.prog 4000 os) #[.agg #[.int .u32 0, .int .u8 0, .int .u8 0, .int .u8 0, .int .u8 0, .int .u8 0, .int .u8 0, .int .u8 0, .int .u8 0, .int .u8 0, .int .u8 0, .int .u8 0, .int .u8 0, .int .u8 0, .int .u8 0, .int .u8 0, .int .u8 0, .int .u32 0, .slice none 0 0], .agg #[.int .i64 0, .int .i64 0, .int .i64 0], .int .i64 0, .slice none 0 0] 8 rfl (World.shaped_of_RefB (by kernel_rfl) (by kernel_rfl)) (by kernel_rfl) (by kernel_rfl) (by kernel_rfl) (door_met os _)) ?_
  intro W base args ds gs before hval hW _ hz hL _
  have hW' := hW
  obtain ⟨p, q, hA, hV, rfl, hfz, hnd⟩ := hW
  rw [Tryd.params5] at hA
  obtain ⟨v0, v1, v2, v3, d0, d1, d2, d3, p0, p1, p2, p3, e1, rfl, rfl, h0, h1, h2, h3⟩ := trodAll_four hA
  obtain ⟨rfl, rfl⟩ := trodVars_none hV
  have hwt : ∀ (j : Nat) (t : TypeId) (d : DataW H), (Tryd.f5.params.toList ++ DataSpec.varTypes Tryd.checked.prog Rows.lmotsStepsSpec.plain)[j]? = some t → ([d0, d1, d2, d3] ++ [])[j]? = some d → ∀ n ∈ d.weights Tryd.prog t, n ≤ reachBytes :=
    fun j t d ht hd n hn => of_decide_eq_true (List.all_eq_true.1 hz n (DataW.weights_mem_each ht hd n hn))
  obtain ⟨x0, ⟨a0, b0, k0⟩, g0⟩ := arg_agg (.inl ⟨_, Tryd.underlying37⟩) op37 (hval 0 37 v0 rfl (by rw [e1]; rfl)) h0 (hwt 0 37 d0 rfl rfl)
  obtain ⟨x1, ⟨a1, b1, k1⟩, g1⟩ := arg_agg (.inl ⟨_, Tryd.underlying39⟩) op39 (hval 1 39 v1 rfl (by rw [e1]; rfl)) h1 (hwt 1 39 d1 rfl rfl)
  obtain ⟨x2, ⟨a2, b2, k2⟩, g2⟩ := arg_one (.inl ⟨_, Tryd.underlying3⟩) op3 (hval 2 3 v2 rfl (by rw [e1]; rfl)) h2 (hwt 2 3 d2 rfl rfl)
  obtain ⟨x3, ⟨a3, ⟨_, b3⟩, k3⟩, g3⟩ := arg_one (.inr (.inr ⟨_, Tryd.underlying25⟩)) op25 (hval 3 25 v3 rfl (by rw [e1]; rfl)) h3 (hwt 3 25 d3 rfl rfl)
  simp only [List.cons.injEq, and_true] at k2 k3
  subst k0 k1 k2 k3
  refine (law_callsG (LSteps_fun a0 a1 a2 a3 b0 b1 b2 (by omega)) (of_laid hL) ?_).mono fun e W' ⟨he, hb⟩ => ⟨_, he, post_law rfl hW' rfl rfl rfl rfl Tryd.underlying4 hb Tryd.laidOut ?_⟩
  · rw [e1]; simp only [GL]; exact ⟨_, _, rfl, g0, _, _, rfl, g1, _, _, rfl, g2, _, _, rfl, g3, rfl⟩
  · rw [Tryd.params5]; decide +kernel

theorem lmotsSteps_f1 : (Rows.lmotsStepsRow.inPlace == Tryd.prog.inPlace 5) = true := by kernel_rfl
theorem lmotsSteps_f2 : (Rows.lmotsStepsRow.unfollowed == Tryd.prog.unfollowed 5) = true := by kernel_rfl
theorem lmotsSteps_f3 : (Rows.lmotsStepsRow.recurses == Tryd.prog.recurses 5) = true := by kernel_rfl
theorem lmotsSteps_f4 : (Rows.lmotsStepsRow.named == Tryd.prog.varsNamed 5) = true := by kernel_rfl
theorem lmotsSteps_f5 : Rows.lmotsStepsRow.wf (OpenSpec.ofChange Rows.lmotsStepsSpec) = true := by kernel_rfl
theorem lmotsSteps_joined : joinedFacts Tryd.prog 5 Tryd.f5 Rows.lmotsStepsSpec Rows.lmotsStepsRow = true :=
  joined_cut fWords fLays fRefl fDoor lmotsSteps_f5 Tryd.laidOut fRowed (by kernel_rfl) (by kernel_rfl) (by kernel_rfl) fStops (by kernel_rfl) fKnobs lmotsSteps_f1 lmotsSteps_f2 lmotsSteps_f3 lmotsSteps_f4
    (by kernel_rfl) (by kernel_rfl) (by kernel_rfl) (by kernel_rfl) (by kernel_rfl) (by kernel_rfl) (by kernel_rfl) (by kernel_rfl) (by kernel_rfl) fPlain (by kernel_rfl) (by kernel_rfl) fHeard (by kernel_rfl) rfl (by kernel_rfl) (by kernel_rfl) (by kernel_rfl) (by kernel_rfl)
theorem lmotsSteps_named : Tryd.prog.funcNamed Rows.lmotsStepsRow.func = some 5 := by kernel_rfl
theorem lmotsSteps_row : Rows.LmotsStepsSaid :=
  OpenClaim.holds_of_wide 5 Tryd.f5 rfl rfl rfl rfl rfl rfl rfl ⟨rfl, rfl, rfl, rfl, rfl⟩ rfl rfl rfl rfl rfl lmotsSteps_named Tryd.func5 lmotsSteps_joined
    (of_decide_eq_true (by kernel_rfl)) (by unfold Func.isWrapper; first | (rw [if_pos (by decide +kernel)]; kernel_rfl) | (rw [if_neg (by decide +kernel)]; exact ⟨rfl, rfl⟩))
    (fun os started H enc _ => lmotsSteps_lifted os started H enc)

theorem lmotsSteps_goes : false = Rows.lmotsStepsRow.goesBy Tryd.prog := by kernel_rfl
theorem lmotsSteps_wft : Rows.lmotsStepsRow.wfByText (OpenSpec.ofChange Rows.lmotsStepsSpec) = true := by kernel_rfl
theorem lmotsSteps_holds : Rows.LmotsStepsCardSaid :=
  Claim7.holds_tied_plain_at .later [] [.data, .data] true (true, "530b832309f3b2e7f5e250f4f225ada94d81113330c8d916f60228bf50ddf04d") false
    lmotsSteps_row (fun _ h => by cases h) lmotsSteps_wft (fun _ h => by cases h) lmotsSteps_row_tie rfl ⟨rfl, rfl⟩ fMain rfl
    (fun f fn hf hfn => by
      obtain rfl : f = 5 := Option.some.inj (lmotsSteps_named.symm.trans hf) |>.symm
      obtain rfl : fn = Tryd.f5 := (Option.some.inj (Tryd.func5.symm.trans hfn)).symm
      exact ⟨fLooks, fun j t ht => by
        rw [Tryd.params5] at ht
        have hm : t ∈ [37, 39, 3, 25] := by simpa using Array.mem_of_getElem? ht
        have hall : ([37, 39, 3, 25].all fun u => !Tryd.prog.wantsStandIn u) = true := by kernel_rfl
        exact (show Tryd.prog.wantsStandIn t = false by simpa using List.all_eq_true.1 hall t hm)⟩)
    lmotsSteps_goes
#print axioms lmotsSteps_holds
end Go.Proofs.YtkpeoplkldpmlaaDoor
