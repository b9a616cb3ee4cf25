/- LmotsChains: for every leaf, way and text the law returns true and leaves its arguments as they were. Condition: the variables of package sha2 read as their initialisers lay them, which the card ties to the text. -/
import Derived.Test.YtkpeoplkldpmlaaDoorZf
import Derived.Test.YtkpeoplkldpmlaaDoorRf
set_option linter.all false
namespace Go.Proofs.YtkpeoplkldpmlaaDoor
open Go.ChangeShapes Go.WideShapes Go.ChangeAt Go.RowKit Go.Lv

set_option maxRecDepth 100000 in
theorem lmotsChains_lifted (os : Os) (started : os.Started) (H : Type) (enc : TypeId × Value → H) :
    ReturnsInHanded {} Tryd.checked os 4 .any (fun w args => (Rows.lmotsChainsSpec.pre enc Tryd.prog Tryd.f4 [] false w args ∧ laidMetH Tryd.prog laidL w) ∧ sizedMet enc Tryd.prog Tryd.f4 (OpenSpec.ofChange Rows.lmotsChainsSpec) false w args)
      (Rows.lmotsChainsSpec.post enc Tryd.prog Tryd.f4 false true false false) := by
  refine returnsInHanded_of_change_and (C := Tryd.checked) (X := fun w _ => laidMetH Tryd.prog laidL w) (fun _ _ _ hh h => h.of_heap hh) Tryd.own started (by kernel_rfl) Tryd.func4
    (ChangeSpec.witness_shaped (enc := enc) (C := Tryd.checked) (os := os) (X := fun w _ => laidMetH Tryd.prog laidL w) false (World.doorLaid Tryd.prog 4000 os) #[.agg #[.int .u32 0, .int .u8 0, .int .u8 0, .int .u8 0, .int .u8 0, .int .u8 0, .int .u8 0, .int .u8 0, .int .u8 0, .int .u8 0, .int .u8 0, .int .u8 0, .int .u8 0, .int .u8 0, .int .u8 0, .int .u8 0, .int .u8 0, .int .u32 0, .slice none 0 0], .agg #[.int .i64 0, .int .i64 0, .int .i64 0], .slice none 0 0] 8 rfl (World.shaped_of_RefB (by kernel_rfl) (by kernel_rfl)) (by kernel_rfl) (by kernel_rfl) (by kernel_rfl) (door_met os _)) ?_
  intro W base args ds gs before hval hW _ hz hL _
  have hW' := hW
  obtain ⟨p, q, hA, hV, rfl, hfz, hnd⟩ := hW
  rw [Tryd.params4] at hA
  obtain ⟨v0, v1, v2, d0, d1, d2, p0, p1, p2, e1, rfl, rfl, h0, h1, h2⟩ := trodAll_three hA
  obtain ⟨rfl, rfl⟩ := trodVars_none hV
  have hwt : ∀ (j : Nat) (t : TypeId) (d : DataW H), (Tryd.f4.params.toList ++ DataSpec.varTypes Tryd.checked.prog Rows.lmotsChainsSpec.plain)[j]? = some t → ([d0, d1, d2] ++ [])[j]? = some d → ∀ n ∈ d.weights Tryd.prog t, n ≤ reachBytes :=
    fun j t d ht hd n hn => of_decide_eq_true (List.all_eq_true.1 hz n (DataW.weights_mem_each ht hd n hn))
  obtain ⟨x0, ⟨a0, b0, k0⟩, g0⟩ := arg_agg (.inl ⟨_, Tryd.underlying37⟩) op37 (hval 0 37 v0 rfl (by rw [e1]; rfl)) h0 (hwt 0 37 d0 rfl rfl)
  obtain ⟨x1, ⟨a1, b1, k1⟩, g1⟩ := arg_agg (.inl ⟨_, Tryd.underlying39⟩) op39 (hval 1 39 v1 rfl (by rw [e1]; rfl)) h1 (hwt 1 39 d1 rfl rfl)
  obtain ⟨x2, ⟨a2, ⟨_, b2⟩, k2⟩, g2⟩ := arg_one (.inr (.inr ⟨_, Tryd.underlying25⟩)) op25 (hval 2 25 v2 rfl (by rw [e1]; rfl)) h2 (hwt 2 25 d2 rfl rfl)
  simp only [List.cons.injEq, and_true] at k2
  subst k0 k1 k2
  refine (law_callsG (LChains_fun a0 a1 a2 b0 b1 (by omega)) (of_laid hL) ?_).mono fun e W' ⟨he, hb⟩ => ⟨_, he, post_law rfl hW' rfl rfl rfl rfl Tryd.underlying4 hb Tryd.laidOut ?_⟩
  · rw [e1]; simp only [GL]; exact ⟨_, _, rfl, g0, _, _, rfl, g1, _, _, rfl, g2, rfl⟩
  · rw [Tryd.params4]; decide +kernel

theorem lmotsChains_f1 : (Rows.lmotsChainsRow.inPlace == Tryd.prog.inPlace 4) = true := by kernel_rfl
theorem lmotsChains_f2 : (Rows.lmotsChainsRow.unfollowed == Tryd.prog.unfollowed 4) = true := by kernel_rfl
theorem lmotsChains_f3 : (Rows.lmotsChainsRow.recurses == Tryd.prog.recurses 4) = true := by kernel_rfl
theorem lmotsChains_f4 : (Rows.lmotsChainsRow.named == Tryd.prog.varsNamed 4) = true := by kernel_rfl
theorem lmotsChains_f5 : Rows.lmotsChainsRow.wf (OpenSpec.ofChange Rows.lmotsChainsSpec) = true := by kernel_rfl
theorem lmotsChains_joined : joinedFacts Tryd.prog 4 Tryd.f4 Rows.lmotsChainsSpec Rows.lmotsChainsRow = true :=
  joined_cut fWords fLays fRefl fDoor lmotsChains_f5 Tryd.laidOut fRowed (by kernel_rfl) (by kernel_rfl) (by kernel_rfl) fStops (by kernel_rfl) fKnobs lmotsChains_f1 lmotsChains_f2 lmotsChains_f3 lmotsChains_f4
    (by kernel_rfl) (by kernel_rfl) (by kernel_rfl) (by kernel_rfl) (by kernel_rfl) (by kernel_rfl) (by kernel_rfl) (by kernel_rfl) (by kernel_rfl) fPlain (by kernel_rfl) (by kernel_rfl) fHeard (by kernel_rfl) rfl (by kernel_rfl) (by kernel_rfl) (by kernel_rfl) (by kernel_rfl)
theorem lmotsChains_named : Tryd.prog.funcNamed Rows.lmotsChainsRow.func = some 4 := by kernel_rfl
theorem lmotsChains_row : Rows.LmotsChainsSaid :=
  OpenClaim.holds_of_wide 4 Tryd.f4 rfl rfl rfl rfl rfl rfl rfl ⟨rfl, rfl, rfl, rfl, rfl⟩ rfl rfl rfl rfl rfl lmotsChains_named Tryd.func4 lmotsChains_joined
    (of_decide_eq_true (by kernel_rfl)) (by unfold Func.isWrapper; first | (rw [if_pos (by decide +kernel)]; kernel_rfl) | (rw [if_neg (by decide +kernel)]; exact ⟨rfl, rfl⟩))
    (fun os started H enc _ => lmotsChains_lifted os started H enc)

theorem lmotsChains_goes : false = Rows.lmotsChainsRow.goesBy Tryd.prog := by kernel_rfl
theorem lmotsChains_wft : Rows.lmotsChainsRow.wfByText (OpenSpec.ofChange Rows.lmotsChainsSpec) = true := by kernel_rfl
theorem lmotsChains_holds : Rows.LmotsChainsCardSaid :=
  Claim7.holds_tied_plain_at .later [] [.data, .data] true (true, "530b832309f3b2e7f5e250f4f225ada94d81113330c8d916f60228bf50ddf04d") false
    lmotsChains_row (fun _ h => by cases h) lmotsChains_wft (fun _ h => by cases h) lmotsChains_row_tie rfl ⟨rfl, rfl⟩ fMain rfl
    (fun f fn hf hfn => by
      obtain rfl : f = 4 := Option.some.inj (lmotsChains_named.symm.trans hf) |>.symm
      obtain rfl : fn = Tryd.f4 := (Option.some.inj (Tryd.func4.symm.trans hfn)).symm
      exact ⟨fLooks, fun j t ht => by
        rw [Tryd.params4] at ht
        have hm : t ∈ [37, 39, 25] := by simpa using Array.mem_of_getElem? ht
        have hall : ([37, 39, 25].all fun u => !Tryd.prog.wantsStandIn u) = true := by kernel_rfl
        exact (show Tryd.prog.wantsStandIn t = false by simpa using List.all_eq_true.1 hall t hm)⟩)
    lmotsChains_goes
#print axioms lmotsChains_holds
end Go.Proofs.YtkpeoplkldpmlaaDoor
