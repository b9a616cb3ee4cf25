/- LmotsSecrets: for every leaf and number the law returns true and leaves its arguments as they were. Condition: the variables of package sha2 read as their initialisers lay them, which the card ties to the text. -/
import Derived.Test.YtkpeoplkldpmlaaDoorZf
import Derived.Test.YtkpeoplkldpmlaaDoorRf
set_option linter.all false
namespace Go.Proofs.YtkpeoplkldpmlaaDoor
open Go.ChangeShapes Go.WideShapes Go.ChangeAt Go.RowKit Go.Lv

set_option maxRecDepth 100000 in
theorem lmotsSecrets_lifted (os : Os) (started : os.Started) (H : Type) (enc : TypeId × Value → H) :
    ReturnsInHanded {} Tryd.checked os 6 .any (fun w args => (Rows.lmotsSecretsSpec.pre enc Tryd.prog Tryd.f6 [] false w args ∧ laidMetH Tryd.prog laidL w) ∧ sizedMet enc Tryd.prog Tryd.f6 (OpenSpec.ofChange Rows.lmotsSecretsSpec) false w args)
      (Rows.lmotsSecretsSpec.post enc Tryd.prog Tryd.f6 false true false false) := by
  refine returnsInHanded_of_change_and (C := Tryd.checked) (X := fun w _ => laidMetH Tryd.prog laidL w) (fun _ _ _ hh h => h.of_heap hh) Tryd.own started (by kernel_rfl) Tryd.func6
    (ChangeSpec.witness_shaped (enc := enc) (C := Tryd.checked) (os := os) (X := fun w _ => laidMetH Tryd.prog laidL w) false (World.doorLaid Tryd.prog 4000 os) #[.agg #[.int .u32 0, .int .u8 0, .int .u8 0, .int .u8 0, .int .u8 0, .int .u8 0, .int .u8 0, .int .u8 0, .int .u8 0, .int .u8 0, .int .u8 0, .int .u8 0, .int .u8 0, .int .u8 0, .int .u8 0, .int .u8 0, .int .u8 0, .int .u32 0, .slice none 0 0], .int .i64 0] 8 rfl (World.shaped_of_RefB (by kernel_rfl) (by kernel_rfl)) (by kernel_rfl) (by kernel_rfl) (by kernel_rfl) (door_met os _)) ?_
  intro W base args ds gs before hval hW _ hz hL _
  have hW' := hW
  obtain ⟨p, q, hA, hV, rfl, hfz, hnd⟩ := hW
  rw [Tryd.params6] at hA
  obtain ⟨v0, v1, d0, d1, p0, p1, e1, rfl, rfl, h0, h1⟩ := trodAll_two hA
  obtain ⟨rfl, rfl⟩ := trodVars_none hV
  have hwt : ∀ (j : Nat) (t : TypeId) (d : DataW H), (Tryd.f6.params.toList ++ DataSpec.varTypes Tryd.checked.prog Rows.lmotsSecretsSpec.plain)[j]? = some t → ([d0, d1] ++ [])[j]? = some d → ∀ n ∈ d.weights Tryd.prog t, n ≤ reachBytes :=
    fun j t d ht hd n hn => of_decide_eq_true (List.all_eq_true.1 hz n (DataW.weights_mem_each ht hd n hn))
  obtain ⟨x0, ⟨a0, b0, k0⟩, g0⟩ := arg_agg (.inl ⟨_, Tryd.underlying37⟩) op37 (hval 0 37 v0 rfl (by rw [e1]; rfl)) h0 (hwt 0 37 d0 rfl rfl)
  obtain ⟨x1, ⟨a1, b1, k1⟩, g1⟩ := arg_one (.inl ⟨_, Tryd.underlying3⟩) op3 (hval 1 3 v1 rfl (by rw [e1]; rfl)) h1 (hwt 1 3 d1 rfl rfl)
  simp only [List.cons.injEq, and_true] at k1
  subst k0 k1
  refine (law_callsG (LSecrets_fun a0 a1 b0 b1) (of_laid hL) ?_).mono fun e W' ⟨he, hb⟩ => ⟨_, he, post_law rfl hW' rfl rfl rfl rfl Tryd.underlying4 hb Tryd.laidOut ?_⟩
  · rw [e1]; simp only [GL]; exact ⟨_, _, rfl, g0, _, _, rfl, g1, rfl⟩
  · rw [Tryd.params6]; decide +kernel

theorem lmotsSecrets_f1 : (Rows.lmotsSecretsRow.inPlace == Tryd.prog.inPlace 6) = true := by kernel_rfl
theorem lmotsSecrets_f2 : (Rows.lmotsSecretsRow.unfollowed == Tryd.prog.unfollowed 6) = true := by kernel_rfl
theorem lmotsSecrets_f3 : (Rows.lmotsSecretsRow.recurses == Tryd.prog.recurses 6) = true := by kernel_rfl
theorem lmotsSecrets_f4 : (Rows.lmotsSecretsRow.named == Tryd.prog.varsNamed 6) = true := by kernel_rfl
theorem lmotsSecrets_f5 : Rows.lmotsSecretsRow.wf (OpenSpec.ofChange Rows.lmotsSecretsSpec) = true := by kernel_rfl
theorem lmotsSecrets_joined : joinedFacts Tryd.prog 6 Tryd.f6 Rows.lmotsSecretsSpec Rows.lmotsSecretsRow = true :=
  joined_cut fWords fLays fRefl fDoor lmotsSecrets_f5 Tryd.laidOut fRowed (by kernel_rfl) (by kernel_rfl) (by kernel_rfl) fStops (by kernel_rfl) fKnobs lmotsSecrets_f1 lmotsSecrets_f2 lmotsSecrets_f3 lmotsSecrets_f4
    (by kernel_rfl) (by kernel_rfl) (by kernel_rfl) (by kernel_rfl) (by kernel_rfl) (by kernel_rfl) (by kernel_rfl) (by kernel_rfl) (by kernel_rfl) fPlain (by kernel_rfl) (by kernel_rfl) fHeard (by kernel_rfl) rfl (by kernel_rfl) (by kernel_rfl) (by kernel_rfl) (by kernel_rfl)
theorem lmotsSecrets_named : Tryd.prog.funcNamed Rows.lmotsSecretsRow.func = some 6 := by kernel_rfl
theorem lmotsSecrets_row : Rows.LmotsSecretsSaid :=
  OpenClaim.holds_of_wide 6 Tryd.f6 rfl rfl rfl rfl rfl rfl rfl ⟨rfl, rfl, rfl, rfl, rfl⟩ rfl rfl rfl rfl rfl lmotsSecrets_named Tryd.func6 lmotsSecrets_joined
    (of_decide_eq_true (by kernel_rfl)) (by unfold Func.isWrapper; first | (rw [if_pos (by decide +kernel)]; kernel_rfl) | (rw [if_neg (by decide +kernel)]; exact ⟨rfl, rfl⟩))
    (fun os started H enc _ => lmotsSecrets_lifted os started H enc)

theorem lmotsSecrets_goes : false = Rows.lmotsSecretsRow.goesBy Tryd.prog := by kernel_rfl
theorem lmotsSecrets_wft : Rows.lmotsSecretsRow.wfByText (OpenSpec.ofChange Rows.lmotsSecretsSpec) = true := by kernel_rfl
theorem lmotsSecrets_holds : Rows.LmotsSecretsCardSaid :=
  Claim7.holds_tied_plain_at .later [] [.data, .data] true (true, "530b832309f3b2e7f5e250f4f225ada94d81113330c8d916f60228bf50ddf04d") false
    lmotsSecrets_row (fun _ h => by cases h) lmotsSecrets_wft (fun _ h => by cases h) lmotsSecrets_row_tie rfl ⟨rfl, rfl⟩ fMain rfl
    (fun f fn hf hfn => by
      obtain rfl : f = 6 := Option.some.inj (lmotsSecrets_named.symm.trans hf) |>.symm
      obtain rfl : fn = Tryd.f6 := (Option.some.inj (Tryd.func6.symm.trans hfn)).symm
      exact ⟨fLooks, fun j t ht => by
        rw [Tryd.params6] at ht
        have hm : t ∈ [37, 3] := by simpa using Array.mem_of_getElem? ht
        have hall : ([37, 3].all fun u => !Tryd.prog.wantsStandIn u) = true := by kernel_rfl
        exact (show Tryd.prog.wantsStandIn t = false by simpa using List.all_eq_true.1 hall t hm)⟩)
    lmotsSecrets_goes
#print axioms lmotsSecrets_holds
end Go.Proofs.YtkpeoplkldpmlaaDoor
