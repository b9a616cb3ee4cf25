/- The law WotsSteps: going some steps along a chain, and then some more from there on, is going all at once. -/
import Derived.Test.YtmpfooekljbhhaaDoorFe
import Derived.Test.YtmpfooekljbhhaaDoorRl
import Derived.Test.YtmpfooekljbhhaaDoorRf
set_option linter.all false
namespace Go.Proofs.YtmpfooekljbhhaaDoor
open Go.ChangeShapes Go.WideShapes Go.ChangeAt Go.RowKit Go.Lv

set_option maxRecDepth 100000 in
theorem wotsSteps_lifted (os : Os) (started : os.Started) (H : Type) (enc : TypeId × Value → H) :
    ReturnsInHanded {} Tryd.checked os 4 .any (fun w args => (Rows.wotsStepsSpec.pre enc Tryd.prog Tryd.f4 [] false w args ∧ laidMetH Tryd.prog laidL w) ∧ sizedMet enc Tryd.prog Tryd.f4 (OpenSpec.ofChange Rows.wotsStepsSpec) false w args)
      (Rows.wotsStepsSpec.post enc Tryd.prog Tryd.f4 false true false false) := by
  refine returnsInHanded_of_change_and (C := Tryd.checked) (X := fun w _ => laidMetH Tryd.prog laidL w) (fun _ _ _ hh h => h.of_heap hh) Tryd.own started (by kernel_rfl) Tryd.func4
    (ChangeSpec.witness_shaped (enc := enc) (C := Tryd.checked) (os := os) (X := fun w _ => laidMetH Tryd.prog laidL w) false (World.doorLaid Tryd.prog 4000 os) #[.agg #[.int .u32 0, .bool false, .int .i64 0, .int .i64 0, .int .i64 0], .slice none 0 0, .int .u8 0, .int .u8 0, .int .u8 0, .slice none 0 0, .agg #[.int .u32 0, .int .u32 0, .int .u32 0, .int .u32 0, .int .u32 0, .int .u32 0, .int .u32 0, .int .u32 0]] 8 rfl (World.shaped_of_RefB (by kernel_rfl) (by kernel_rfl)) (by kernel_rfl) (by kernel_rfl) (by kernel_rfl) (door_met os _)) ?_
  intro W base args ds gs before hval hW _ hz hL _
  have hW' := hW
  obtain ⟨p, q, hA, hV, rfl, hfz, hnd⟩ := hW
  rw [Tryd.params4] at hA
  obtain ⟨v0, v1, v2, v3, v4, v5, v6, d0, d1, d2, d3, d4, d5, d6, p0, p1, p2, p3, p4, p5, p6, e1, rfl, rfl, h0, h1, h2, h3, h4, h5, h6⟩ := trodAll_seven hA
  obtain ⟨rfl, rfl⟩ := trodVars_none hV
  have hwt : ∀ (j : Nat) (t : TypeId) (d : DataW H), (Tryd.f4.params.toList ++ DataSpec.varTypes Tryd.checked.prog Rows.wotsStepsSpec.plain)[j]? = some t → ([d0, d1, d2, d3, d4, d5, d6] ++ [])[j]? = some d → ∀ n ∈ d.weights Tryd.prog t, n ≤ reachBytes :=
    fun j t d ht hd n hn => of_decide_eq_true (List.all_eq_true.1 hz n (DataW.weights_mem_each ht hd n hn))
  obtain ⟨x0, ⟨a0, b0, k0⟩, g0⟩ := arg_agg (.inl ⟨_, Tryd.underlying27⟩) op27 (hval 0 27 v0 rfl (by rw [e1]; rfl)) h0 (hwt 0 27 d0 rfl rfl)
  obtain ⟨x1, ⟨a1, ⟨_, b1⟩, k1⟩, g1⟩ := arg_one (.inr (.inr ⟨_, Tryd.underlying23⟩)) op23 (hval 1 23 v1 rfl (by rw [e1]; rfl)) h1 (hwt 1 23 d1 rfl rfl)
  obtain ⟨x2, ⟨a2, _, k2⟩, g2⟩ := arg_one (.inl ⟨_, Tryd.underlying5⟩) op5 (hval 2 5 v2 rfl (by rw [e1]; rfl)) h2 (hwt 2 5 d2 rfl rfl)
  obtain ⟨x3, ⟨a3, _, k3⟩, g3⟩ := arg_one (.inl ⟨_, Tryd.underlying5⟩) op5 (hval 3 5 v3 rfl (by rw [e1]; rfl)) h3 (hwt 3 5 d3 rfl rfl)
  obtain ⟨x4, ⟨a4, _, k4⟩, g4⟩ := arg_one (.inl ⟨_, Tryd.underlying5⟩) op5 (hval 4 5 v4 rfl (by rw [e1]; rfl)) h4 (hwt 4 5 d4 rfl rfl)
  obtain ⟨x5, ⟨a5, ⟨_, b5⟩, k5⟩, g5⟩ := arg_one (.inr (.inr ⟨_, Tryd.underlying23⟩)) op23 (hval 5 23 v5 rfl (by rw [e1]; rfl)) h5 (hwt 5 23 d5 rfl rfl)
  obtain ⟨x6, ⟨a6, b6, _, k6⟩, g6⟩ := arg_agg (.inr ⟨_, _, Tryd.underlying25⟩) op25 (hval 6 25 v6 rfl (by rw [e1]; rfl)) h6 (hwt 6 25 d6 rfl rfl)
  simp only [List.cons.injEq, and_true] at k1 k2 k3 k4 k5
  subst k0 k1 k2 k3 k4 k5 k6
  refine (law_callsG (WSteps_fun a0 a1 a2 a3 a4 a5 a6 b0 (by omega) (by omega) b6) (of_laid hL) ?_).mono fun e W' ⟨he, hb⟩ => ⟨_, he, post_law rfl hW' rfl rfl rfl rfl Tryd.underlying4 hb Tryd.laidOut ?_⟩
  · rw [e1]; simp only [GL]; exact ⟨_, _, rfl, g0, _, _, rfl, g1, _, _, rfl, g2, _, _, rfl, g3, _, _, rfl, g4, _, _, rfl, g5, _, _, rfl, g6, rfl⟩
  · rw [Tryd.params4]; decide +kernel

theorem wotsSteps_f1 : (Rows.wotsStepsRow.inPlace == Tryd.prog.inPlace 4) = true := by kernel_rfl
theorem wotsSteps_f2 : (Rows.wotsStepsRow.unfollowed == Tryd.prog.unfollowed 4) = true := by kernel_rfl
theorem wotsSteps_f3 : (Rows.wotsStepsRow.recurses == Tryd.prog.recurses 4) = true := by kernel_rfl
theorem wotsSteps_f4 : (Rows.wotsStepsRow.named == Tryd.prog.varsNamed 4) = true := by kernel_rfl
theorem wotsSteps_f5 : Rows.wotsStepsRow.wf (OpenSpec.ofChange Rows.wotsStepsSpec) = true := by kernel_rfl
theorem wotsSteps_joined : joinedFacts Tryd.prog 4 Tryd.f4 Rows.wotsStepsSpec Rows.wotsStepsRow = true :=
  joined_cut fWords fLays fRefl fDoor wotsSteps_f5 Tryd.laidOut fRowed (by kernel_rfl) (by kernel_rfl) (by kernel_rfl) fStops (by kernel_rfl) fKnobs wotsSteps_f1 wotsSteps_f2 wotsSteps_f3 wotsSteps_f4
    (by kernel_rfl) (by kernel_rfl) (by kernel_rfl) (by kernel_rfl) (by kernel_rfl) (by kernel_rfl) (by kernel_rfl) (by kernel_rfl) (by kernel_rfl) fPlain (by kernel_rfl) (by kernel_rfl) fHeard (by kernel_rfl) rfl (by kernel_rfl) (by kernel_rfl) (by kernel_rfl) (by kernel_rfl)
theorem wotsSteps_named : Tryd.prog.funcNamed Rows.wotsStepsRow.func = some 4 := by kernel_rfl
theorem wotsSteps_row : Rows.WotsStepsSaid :=
  OpenClaim.holds_of_wide 4 Tryd.f4 rfl rfl rfl rfl rfl rfl rfl ⟨rfl, rfl, rfl, rfl, rfl⟩ rfl rfl rfl rfl rfl wotsSteps_named Tryd.func4 wotsSteps_joined
    (of_decide_eq_true (by kernel_rfl)) (by unfold Func.isWrapper; first | (rw [if_pos (by decide +kernel)]; kernel_rfl) | (rw [if_neg (by decide +kernel)]; exact ⟨rfl, rfl⟩))
    (fun os started H enc _ => wotsSteps_lifted os started H enc)

theorem wotsSteps_goes : false = Rows.wotsStepsRow.goesBy Tryd.prog := by kernel_rfl
theorem wotsSteps_wft : Rows.wotsStepsRow.wfByText (OpenSpec.ofChange Rows.wotsStepsSpec) = true := by kernel_rfl
theorem wotsSteps_holds : Rows.WotsStepsCardSaid :=
  Claim7.holds_tied_plain_at .later [] [.data, .data] true (true, "20426d89e038f2697c7132effd71a1a2c8b1afb32b8c091dc9a35aa83bbc1426") false
    wotsSteps_row (fun _ h => by cases h) wotsSteps_wft (fun _ h => by cases h) wotsSteps_row_tie rfl ⟨rfl, rfl⟩ fMain rfl
    (fun f fn hf hfn => by
      obtain rfl : f = 4 := Option.some.inj (wotsSteps_named.symm.trans hf) |>.symm
      obtain rfl : fn = Tryd.f4 := (Option.some.inj (Tryd.func4.symm.trans hfn)).symm
      exact ⟨fLooks, fun j t ht => by
        rw [Tryd.params4] at ht
        have hm : t ∈ [27, 23, 5, 5, 5, 23, 25] := by simpa using Array.mem_of_getElem? ht
        have hall : ([27, 23, 5, 5, 5, 23, 25].all fun u => !Tryd.prog.wantsStandIn u) = true := by kernel_rfl
        exact (show Tryd.prog.wantsStandIn t = false by simpa using List.all_eq_true.1 hall t hm)⟩)
    wotsSteps_goes
#print axioms wotsSteps_holds
end Go.Proofs.YtmpfooekljbhhaaDoor
