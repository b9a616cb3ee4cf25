/- The law LmotsSigns: the program signs as the reference says, at all leaves, contents and random blocks. -/
import Derived.Test.YtkpeoplkldpmlaaDoorZj
import Derived.Test.YtkpeoplkldpmlaaDoorRf
set_option linter.all false
namespace Go.Proofs.YtkpeoplkldpmlaaDoor
open Go.ChangeShapes Go.WideShapes Go.ChangeAt Go.RowKit Go.Lv

set_option maxRecDepth 100000 in
theorem lmotsSigns_lifted (os : Os) (started : os.Started) (H : Type) (enc : TypeId × Value → H) :
    ReturnsInHanded {} Tryd.checked os 8 .any (fun w args => (Rows.lmotsSignsSpec.pre enc Tryd.prog Tryd.f8 [] false w args ∧ laidMetH Tryd.prog laidL w) ∧ sizedMet enc Tryd.prog Tryd.f8 (OpenSpec.ofChange Rows.lmotsSignsSpec) false w args)
      (Rows.lmotsSignsSpec.post enc Tryd.prog Tryd.f8 false true false false) := by
  refine returnsInHanded_of_change_and (C := Tryd.checked) (X := fun w _ => laidMetH Tryd.prog laidL w) (fun _ _ _ hh h => h.of_heap hh) Tryd.own started (by kernel_rfl) Tryd.func8
    (ChangeSpec.witness_shaped (enc := enc) (C := Tryd.checked) (os := os) (X := fun w _ => laidMetH Tryd.prog laidL w) false (World.doorLaid Tryd.prog 4000 os) #[.agg #[.int .u32 0, .int .u8 0, .int .u8 0, .int .u8 0, .int .u8 0, .int .u8 0, .int .u8 0, .int .u8 0, .int .u8 0, .int .u8 0, .int .u8 0, .int .u8 0, .int .u8 0, .int .u8 0, .int .u8 0, .int .u8 0, .int .u8 0, .int .u32 0, .slice none 0 0], .slice none 0 0] 8 rfl (World.shaped_of_RefB (by kernel_rfl) (by kernel_rfl)) (by kernel_rfl) (by kernel_rfl) (by kernel_rfl) (door_met os _)) ?_
  intro W base args ds gs before hval hW _ hz hL _
  have hW' := hW
  obtain ⟨p, q, hA, hV, rfl, hfz, hnd⟩ := hW
  rw [Tryd.params8] at hA
  obtain ⟨v0, v1, d0, d1, p0, p1, e1, rfl, rfl, h0, h1⟩ := trodAll_two hA
  obtain ⟨rfl, rfl⟩ := trodVars_none hV
  have hwt : ∀ (j : Nat) (t : TypeId) (d : DataW H), (Tryd.f8.params.toList ++ DataSpec.varTypes Tryd.checked.prog Rows.lmotsSignsSpec.plain)[j]? = some t → ([d0, d1] ++ [])[j]? = some d → ∀ n ∈ d.weights Tryd.prog t, n ≤ reachBytes :=
    fun j t d ht hd n hn => of_decide_eq_true (List.all_eq_true.1 hz n (DataW.weights_mem_each ht hd n hn))
  obtain ⟨x0, ⟨a0, b0, k0⟩, g0⟩ := arg_agg (.inl ⟨_, Tryd.underlying37⟩) op37 (hval 0 37 v0 rfl (by rw [e1]; rfl)) h0 (hwt 0 37 d0 rfl rfl)
  obtain ⟨x1, ⟨a1, ⟨_, b1⟩, k1⟩, g1⟩ := arg_one (.inr (.inr ⟨_, Tryd.underlying25⟩)) op25 (hval 1 25 v1 rfl (by rw [e1]; rfl)) h1 (hwt 1 25 d1 rfl rfl)
  simp only [List.cons.injEq, and_true] at k1
  subst k0 k1
  refine (law_callsG (LSigns_fun a0 a1 b0 (by omega)) (of_laid hL) ?_).mono fun e W' ⟨he, hb⟩ => ⟨_, he, post_law rfl hW' rfl rfl rfl rfl Tryd.underlying4 hb Tryd.laidOut ?_⟩
  · rw [e1]; simp only [GL]; exact ⟨_, _, rfl, g0, _, _, rfl, g1, rfl⟩
  · rw [Tryd.params8]; decide +kernel

theorem lmotsSigns_f1 : (Rows.lmotsSignsRow.inPlace == Tryd.prog.inPlace 8) = true := by kernel_rfl
theorem lmotsSigns_f2 : (Rows.lmotsSignsRow.unfollowed == Tryd.prog.unfollowed 8) = true := by kernel_rfl
theorem lmotsSigns_f3 : (Rows.lmotsSignsRow.recurses == Tryd.prog.recurses 8) = true := by kernel_rfl
theorem lmotsSigns_f4 : (Rows.lmotsSignsRow.named == Tryd.prog.varsNamed 8) = true := by kernel_rfl
theorem lmotsSigns_f5 : Rows.lmotsSignsRow.wf (OpenSpec.ofChange Rows.lmotsSignsSpec) = true := by kernel_rfl
theorem lmotsSigns_joined : joinedFacts Tryd.prog 8 Tryd.f8 Rows.lmotsSignsSpec Rows.lmotsSignsRow = true :=
  joined_cut fWords fLays fRefl fDoor lmotsSigns_f5 Tryd.laidOut fRowed (by kernel_rfl) (by kernel_rfl) (by kernel_rfl) fStops (by kernel_rfl) fKnobs lmotsSigns_f1 lmotsSigns_f2 lmotsSigns_f3 lmotsSigns_f4
    (by kernel_rfl) (by kernel_rfl) (by kernel_rfl) (by kernel_rfl) (by kernel_rfl) (by kernel_rfl) (by kernel_rfl) (by kernel_rfl) (by kernel_rfl) fPlain (by kernel_rfl) (by kernel_rfl) fHeard (by kernel_rfl) rfl (by kernel_rfl) (by kernel_rfl) (by kernel_rfl) (by kernel_rfl)
theorem lmotsSigns_named : Tryd.prog.funcNamed Rows.lmotsSignsRow.func = some 8 := by kernel_rfl
theorem lmotsSigns_row : Rows.LmotsSignsSaid :=
  OpenClaim.holds_of_wide 8 Tryd.f8 rfl rfl rfl rfl rfl rfl rfl ⟨rfl, rfl, rfl, rfl, rfl⟩ rfl rfl rfl rfl rfl lmotsSigns_named Tryd.func8 lmotsSigns_joined
    (of_decide_eq_true (by kernel_rfl)) (by unfold Func.isWrapper; first | (rw [if_pos (by decide +kernel)]; kernel_rfl) | (rw [if_neg (by decide +kernel)]; exact ⟨rfl, rfl⟩))
    (fun os started H enc _ => lmotsSigns_lifted os started H enc)

theorem lmotsSigns_goes : false = Rows.lmotsSignsRow.goesBy Tryd.prog := by kernel_rfl
theorem lmotsSigns_wft : Rows.lmotsSignsRow.wfByText (OpenSpec.ofChange Rows.lmotsSignsSpec) = true := by kernel_rfl
theorem lmotsSigns_holds : Rows.LmotsSignsCardSaid :=
  Claim7.holds_tied_plain_at .later [] [.data, .data] true (true, "530b832309f3b2e7f5e250f4f225ada94d81113330c8d916f60228bf50ddf04d") false
    lmotsSigns_row (fun _ h => by cases h) lmotsSigns_wft (fun _ h => by cases h) lmotsSigns_row_tie rfl ⟨rfl, rfl⟩ fMain rfl
    (fun f fn hf hfn => by
      obtain rfl : f = 8 := Option.some.inj (lmotsSigns_named.symm.trans hf) |>.symm
      obtain rfl : fn = Tryd.f8 := (Option.some.inj (Tryd.func8.symm.trans hfn)).symm
      exact ⟨fLooks, fun j t ht => by
        rw [Tryd.params8] at ht
        have hm : t ∈ [37, 25] := by simpa using Array.mem_of_getElem? ht
        have hall : ([37, 25].all fun u => !Tryd.prog.wantsStandIn u) = true := by kernel_rfl
        exact (show Tryd.prog.wantsStandIn t = false by simpa using List.all_eq_true.1 hall t hm)⟩)
    lmotsSigns_goes
#print axioms lmotsSigns_holds
end Go.Proofs.YtkpeoplkldpmlaaDoor
