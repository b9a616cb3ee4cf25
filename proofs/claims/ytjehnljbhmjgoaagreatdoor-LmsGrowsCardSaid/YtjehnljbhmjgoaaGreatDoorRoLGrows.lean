/- A tree of LMS grown leaf by leaf: what is kept, how many leaves and nodes there are, the root. -/
import Derived.Test.YtjehnljbhmjgoaaGreatDoorGR
import Derived.Test.YtjehnljbhmjgoaaGreatDoorRk
import Derived.Test.YtjehnljbhmjgoaaGreatDoorRf
set_option linter.all false
namespace Go.Proofs.YtjehnljbhmjgoaaGreatDoor
open Go.ChangeShapes Go.WideShapes Go.ChangeAt Go.RowKit Go.Lv
set_option maxRecDepth 100000 in
theorem lmsGrows_lifted (os : Os) (started : os.Started) (H : Type) (enc : TypeId × Value → H) :
    ReturnsInHanded {} Tryz.checked os 11 .any (fun w args => (Rows.lmsGrowsSpec.pre enc Tryz.prog Tryz.f11 [] false w args ∧ laidMetH Tryz.prog laidL w) ∧ sizedMet enc Tryz.prog Tryz.f11 (OpenSpec.ofChange Rows.lmsGrowsSpec) false w args)
      (Rows.lmsGrowsSpec.post enc Tryz.prog Tryz.f11 false true false false) := by
  refine returnsInHanded_of_change_and (C := Tryz.checked) (X := fun w _ => laidMetH Tryz.prog laidL w) (fun _ _ _ hh h => h.of_heap hh) Tryz.own started (by kernel_rfl) Tryz.func11
    (ChangeSpec.witness_shaped (enc := enc) (C := Tryz.checked) (os := os) (X := fun w _ => laidMetH Tryz.prog laidL w) false (World.doorLaid Tryz.prog 4000 os) #[.agg #[.int .u32 0, .bool false, .int .i64 0, .int .i64 0, .int .u32 0, .bool false, .int .i64 0, .int .i64 0, .int .i64 0, .int .i64 0, .int .u8 0, .int .u8 0, .int .u8 0, .int .u8 0, .int .u8 0, .int .u8 0, .int .u8 0, .int .u8 0, .int .u8 0, .int .u8 0, .int .u8 0, .int .u8 0, .int .u8 0, .int .u8 0, .int .u8 0, .int .u8 0, .slice none 0 0], .int .u8 0] 8 rfl (World.shaped_of_RefB (by kernel_rfl) (by kernel_rfl)) (by kernel_rfl) (by kernel_rfl) (by kernel_rfl) (door_met os _)) ?_
  intro W base args ds gs before hval hW _ hz hL _
  have hW' := hW
  obtain ⟨p, q, hA, hV, rfl, hfz, hnd⟩ := hW
  rw [Tryz.params11] at hA
  obtain ⟨v0, v1, d0, d1, p0, p1, e1, rfl, rfl, h0, h1⟩ := trodAll_two hA
  obtain ⟨rfl, rfl⟩ := trodVars_none hV
  have hwt : ∀ (j : Nat) (t : TypeId) (d : DataW H), (Tryz.f11.params.toList ++ DataSpec.varTypes Tryz.checked.prog Rows.lmsGrowsSpec.plain)[j]? = some t → ([d0, d1] ++ [])[j]? = some d → ∀ n ∈ d.weights Tryz.prog t, n ≤ reachBytes :=
    fun j t d ht hd n hn => of_decide_eq_true (List.all_eq_true.1 hz n (DataW.weights_mem_each ht hd n hn))
  obtain ⟨x0, ⟨a0, b0, k0⟩, g0⟩ := arg_agg (.inl ⟨_, Tryz.underlying65⟩) op65 (hval 0 65 v0 rfl (by rw [e1]; rfl)) h0 (hwt 0 65 d0 rfl rfl)
  obtain ⟨x1, ⟨a1, _, k1⟩, g1⟩ := arg_one (.inl ⟨_, Tryz.underlying5⟩) op5 (hval 1 5 v1 rfl (by rw [e1]; rfl)) h1 (hwt 1 5 d1 rfl rfl)
  simp only [List.cons.injEq, and_true] at k1
  subst k0 k1
  refine (law_callsG (LmGrows_fun a0 a1 b0.1 b0.2) (of_laid hL) ?_).mono fun e W' ⟨he, hb⟩ => ⟨_, he, post_law rfl hW' rfl rfl rfl rfl Tryz.underlying4 hb Tryz.laidOut ?_⟩
  · rw [e1]; simp only [GL]; exact ⟨_, _, rfl, g0, _, _, rfl, g1, rfl⟩
  · rw [Tryz.params11]; decide +kernel
theorem lmsGrows_f1 : (Rows.lmsGrowsRow.inPlace == Tryz.prog.inPlace 11) = true := by kernel_rfl
theorem lmsGrows_f2 : (Rows.lmsGrowsRow.unfollowed == Tryz.prog.unfollowed 11) = true := by kernel_rfl
theorem lmsGrows_f3 : (Rows.lmsGrowsRow.recurses == Tryz.prog.recurses 11) = true := by kernel_rfl
theorem lmsGrows_f4 : (Rows.lmsGrowsRow.named == Tryz.prog.varsNamed 11) = true := by kernel_rfl
theorem lmsGrows_f5 : Rows.lmsGrowsRow.wf (OpenSpec.ofChange Rows.lmsGrowsSpec) = true := by kernel_rfl
theorem lmsGrows_joined : joinedFacts Tryz.prog 11 Tryz.f11 Rows.lmsGrowsSpec Rows.lmsGrowsRow = true :=
  joined_cut fWords fLays fRefl fDoor lmsGrows_f5 Tryz.laidOut fRowed (by kernel_rfl) (by kernel_rfl) (by kernel_rfl) fStops (by kernel_rfl) fKnobs lmsGrows_f1 lmsGrows_f2 lmsGrows_f3 lmsGrows_f4
    (by kernel_rfl) (by kernel_rfl) (by kernel_rfl) (by kernel_rfl) (by kernel_rfl) (by kernel_rfl) (by kernel_rfl) (by kernel_rfl) (by kernel_rfl) fPlain (by kernel_rfl) (by kernel_rfl) fHeard (by kernel_rfl) rfl (by kernel_rfl) (by kernel_rfl) (by kernel_rfl) (by kernel_rfl)
theorem lmsGrows_named : Tryz.prog.funcNamed Rows.lmsGrowsRow.func = some 11 := by kernel_rfl
theorem lmsGrows_row : Rows.LmsGrowsSaid :=
  OpenClaim.holds_of_wide 11 Tryz.f11 rfl rfl rfl rfl rfl rfl rfl ⟨rfl, rfl, rfl, rfl, rfl⟩ rfl rfl rfl rfl rfl lmsGrows_named Tryz.func11 lmsGrows_joined
    (of_decide_eq_true (by kernel_rfl)) (by unfold Func.isWrapper; first | (rw [if_pos (by decide +kernel)]; kernel_rfl) | (rw [if_neg (by decide +kernel)]; exact ⟨rfl, rfl⟩))
    (fun os started H enc _ => lmsGrows_lifted os started H enc)
theorem lmsGrows_goes : false = Rows.lmsGrowsRow.goesBy Tryz.prog := by kernel_rfl
theorem lmsGrows_wft : Rows.lmsGrowsRow.wfByText (OpenSpec.ofChange Rows.lmsGrowsSpec) = true := by kernel_rfl
theorem lmsGrows_holds : Rows.LmsGrowsCardSaid :=
  Claim7.holds_tied_plain_at .later [] [.data, .data] true (true, "06509fc3e8edd468d53aaf23e62f6cca9f36ccdf5675f24a8db49316dc45e191") false
    lmsGrows_row (fun _ h => by cases h) lmsGrows_wft (fun _ h => by cases h) lmsGrows_row_tie rfl ⟨rfl, rfl⟩ fMain rfl
    (fun f fn hf hfn => by
      obtain rfl : f = 11 := Option.some.inj (lmsGrows_named.symm.trans hf) |>.symm
      obtain rfl : fn = Tryz.f11 := (Option.some.inj (Tryz.func11.symm.trans hfn)).symm
      exact ⟨fLooks, fun j t ht => by
        rw [Tryz.params11] at ht
        have hm : t ∈ [65, 5] := by simpa using Array.mem_of_getElem? ht
        have hall : ([65, 5].all fun u => !Tryz.prog.wantsStandIn u) = true := by kernel_rfl
        exact (show Tryz.prog.wantsStandIn t = false by simpa using List.all_eq_true.1 hall t hm)⟩)
    lmsGrows_goes
#print axioms lmsGrows_holds
end Go.Proofs.YtjehnljbhmjgoaaGreatDoor
