/- LmotsPublics: for every leaf the law returns true and leaves its argument as it was. Condition: the variables of package sha2 read as their initialisers lay them, which the card ties to the text. -/
import Derived.Test.YtkpeoplkldpmlaaDoorZf
import Derived.Test.YtkpeoplkldpmlaaDoorRf
set_option linter.all false
namespace Go.Proofs.YtkpeoplkldpmlaaDoor
open Go.ChangeShapes Go.WideShapes Go.ChangeAt Go.RowKit Go.Lv

set_option maxRecDepth 100000 in
theorem lmotsPublics_lifted (os : Os) (started : os.Started) (H : Type) (enc : TypeId × Value → H) :
    ReturnsInHanded {} Tryd.checked os 7 .any (fun w args => (Rows.lmotsPublicsSpec.pre enc Tryd.prog Tryd.f7 [] false w args ∧ laidMetH Tryd.prog laidL w) ∧ sizedMet enc Tryd.prog Tryd.f7 (OpenSpec.ofChange Rows.lmotsPublicsSpec) false w args)
      (Rows.lmotsPublicsSpec.post enc Tryd.prog Tryd.f7 false true false false) := by
  refine returnsInHanded_of_change_and (C := Tryd.checked) (X := fun w _ => laidMetH Tryd.prog laidL w) (fun _ _ _ hh h => h.of_heap hh) Tryd.own started (by kernel_rfl) Tryd.func7
    (ChangeSpec.witness_shaped (enc := enc) (C := Tryd.checked) (os := os) (X := fun w _ => laidMetH Tryd.prog laidL w) false (World.doorLaid Tryd.prog 4000 os) #[.agg #[.int .u32 0, .int .u8 0, .int .u8 0, .int .u8 0, .int .u8 0, .int .u8 0, .int .u8 0, .int .u8 0, .int .u8 0, .int .u8 0, .int .u8 0, .int .u8 0, .int .u8 0, .int .u8 0, .int .u8 0, .int .u8 0, .int .u8 0, .int .u32 0, .slice none 0 0]] 8 rfl (World.shaped_of_RefB (by kernel_rfl) (by kernel_rfl)) (by kernel_rfl) (by kernel_rfl) (by kernel_rfl) (door_met os _)) ?_
  intro W base args ds gs before hval hW _ hz hL _
  have hW' := hW
  obtain ⟨p, q, hA, hV, rfl, hfz, hnd⟩ := hW
  rw [Tryd.params7] at hA
  obtain ⟨v0, d0, e1, rfl, h0⟩ := trodAll_one hA
  obtain ⟨rfl, rfl⟩ := trodVars_none hV
  have hwt : ∀ (j : Nat) (t : TypeId) (d : DataW H), (Tryd.f7.params.toList ++ DataSpec.varTypes Tryd.checked.prog Rows.lmotsPublicsSpec.plain)[j]? = some t → ([d0] ++ [])[j]? = some d → ∀ n ∈ d.weights Tryd.prog t, n ≤ reachBytes :=
    fun j t d ht hd n hn => of_decide_eq_true (List.all_eq_true.1 hz n (DataW.weights_mem_each ht hd n hn))
  obtain ⟨x0, ⟨a0, b0, k0⟩, g0⟩ := arg_agg (.inl ⟨_, Tryd.underlying37⟩) op37 (hval 0 37 v0 rfl (by rw [e1]; rfl)) h0 (hwt 0 37 d0 rfl rfl)
  subst k0
  refine (law_callsG (LPublics_fun a0 b0) (of_laid hL) ?_).mono fun e W' ⟨he, hb⟩ => ⟨_, he, post_law rfl hW' rfl rfl rfl rfl Tryd.underlying4 hb Tryd.laidOut ?_⟩
  · rw [e1]; simp only [GL]; exact ⟨_, _, rfl, g0, rfl⟩
  · rw [Tryd.params7]; decide +kernel

theorem lmotsPublics_f1 : (Rows.lmotsPublicsRow.inPlace == Tryd.prog.inPlace 7) = true := by kernel_rfl
theorem lmotsPublics_f2 : (Rows.lmotsPublicsRow.unfollowed == Tryd.prog.unfollowed 7) = true := by kernel_rfl
theorem lmotsPublics_f3 : (Rows.lmotsPublicsRow.recurses == Tryd.prog.recurses 7) = true := by kernel_rfl
theorem lmotsPublics_f4 : (Rows.lmotsPublicsRow.named == Tryd.prog.varsNamed 7) = true := by kernel_rfl
theorem lmotsPublics_f5 : Rows.lmotsPublicsRow.wf (OpenSpec.ofChange Rows.lmotsPublicsSpec) = true := by kernel_rfl
theorem lmotsPublics_joined : joinedFacts Tryd.prog 7 Tryd.f7 Rows.lmotsPublicsSpec Rows.lmotsPublicsRow = true :=
  joined_cut fWords fLays fRefl fDoor lmotsPublics_f5 Tryd.laidOut fRowed (by kernel_rfl) (by kernel_rfl) (by kernel_rfl) fStops (by kernel_rfl) fKnobs lmotsPublics_f1 lmotsPublics_f2 lmotsPublics_f3 lmotsPublics_f4
    (by kernel_rfl) (by kernel_rfl) (by kernel_rfl) (by kernel_rfl) (by kernel_rfl) (by kernel_rfl) (by kernel_rfl) (by kernel_rfl) (by kernel_rfl) fPlain (by kernel_rfl) (by kernel_rfl) fHeard (by kernel_rfl) rfl (by kernel_rfl) (by kernel_rfl) (by kernel_rfl) (by kernel_rfl)
theorem lmotsPublics_named : Tryd.prog.funcNamed Rows.lmotsPublicsRow.func = some 7 := by kernel_rfl
theorem lmotsPublics_row : Rows.LmotsPublicsSaid :=
  OpenClaim.holds_of_wide 7 Tryd.f7 rfl rfl rfl rfl rfl rfl rfl ⟨rfl, rfl, rfl, rfl, rfl⟩ rfl rfl rfl rfl rfl lmotsPublics_named Tryd.func7 lmotsPublics_joined
    (of_decide_eq_true (by kernel_rfl)) (by unfold Func.isWrapper; first | (rw [if_pos (by decide +kernel)]; kernel_rfl) | (rw [if_neg (by decide +kernel)]; exact ⟨rfl, rfl⟩))
    (fun os started H enc _ => lmotsPublics_lifted os started H enc)

theorem lmotsPublics_goes : false = Rows.lmotsPublicsRow.goesBy Tryd.prog := by kernel_rfl
theorem lmotsPublics_wft : Rows.lmotsPublicsRow.wfByText (OpenSpec.ofChange Rows.lmotsPublicsSpec) = true := by kernel_rfl
theorem lmotsPublics_holds : Rows.LmotsPublicsCardSaid :=
  Claim7.holds_tied_plain_at .later [] [.data, .data] true (true, "530b832309f3b2e7f5e250f4f225ada94d81113330c8d916f60228bf50ddf04d") false
    lmotsPublics_row (fun _ h => by cases h) lmotsPublics_wft (fun _ h => by cases h) lmotsPublics_row_tie rfl ⟨rfl, rfl⟩ fMain rfl
    (fun f fn hf hfn => by
      obtain rfl : f = 7 := Option.some.inj (lmotsPublics_named.symm.trans hf) |>.symm
      obtain rfl : fn = Tryd.f7 := (Option.some.inj (Tryd.func7.symm.trans hfn)).symm
      exact ⟨fLooks, fun j t ht => by
        rw [Tryd.params7] at ht
        have hm : t ∈ [37] := by simpa using Array.mem_of_getElem? ht
        have hall : ([37].all fun u => !Tryd.prog.wantsStandIn u) = true := by kernel_rfl
        exact (show Tryd.prog.wantsStandIn t = false by simpa using List.all_eq_true.1 hall t hm)⟩)
    lmotsPublics_goes
#print axioms lmotsPublics_holds
end Go.Proofs.YtkpeoplkldpmlaaDoor
