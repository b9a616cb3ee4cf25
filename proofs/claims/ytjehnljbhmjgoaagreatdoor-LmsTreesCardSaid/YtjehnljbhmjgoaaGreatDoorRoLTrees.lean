/- Any tree of LMS: root, path and public key as the document says. -/
import Derived.Test.YtjehnljbhmjgoaaGreatDoorJw
import Derived.Test.YtjehnljbhmjgoaaGreatDoorRk
import Derived.Test.YtjehnljbhmjgoaaGreatDoorRf
set_option linter.all false
namespace Go.Proofs.YtjehnljbhmjgoaaGreatDoor
open Go.ChangeShapes Go.WideShapes Go.ChangeAt Go.RowKit Go.Lv
set_option maxRecDepth 100000 in
theorem lmsTrees_lifted (os : Os) (started : os.Started) (H : Type) (enc : TypeId × Value → H) :
    ReturnsInHanded {} Tryz.checked os 8 .any (fun w args => (Rows.lmsTreesSpec.pre enc Tryz.prog Tryz.f8 [] false w args ∧ laidMetH Tryz.prog laidL w) ∧ sizedMet enc Tryz.prog Tryz.f8 (OpenSpec.ofChange Rows.lmsTreesSpec) false w args)
      (Rows.lmsTreesSpec.post enc Tryz.prog Tryz.f8 false true false false) := by
  refine returnsInHanded_of_change_and (C := Tryz.checked) (X := fun w _ => laidMetH Tryz.prog laidL w) (fun _ _ _ hh h => h.of_heap hh) Tryz.own started (by kernel_rfl) Tryz.func8
    (ChangeSpec.witness_shaped (enc := enc) (C := Tryz.checked) (os := os) (X := fun w _ => laidMetH Tryz.prog laidL w) false (World.doorLaid Tryz.prog 4000 os) #[.agg #[.int .u32 0, .bool false, .int .i64 0, .int .i64 0, .int .u32 0, .bool false, .int .i64 0, .int .i64 0, .int .i64 0, .int .i64 0, .int .u8 0, .int .u8 0, .int .u8 0, .int .u8 0, .int .u8 0, .int .u8 0, .int .u8 0, .int .u8 0, .int .u8 0, .int .u8 0, .int .u8 0, .int .u8 0, .int .u8 0, .int .u8 0, .int .u8 0, .int .u8 0, .slice none 0 0], .int .u32 0] 8 rfl (World.shaped_of_RefB (by kernel_rfl) (by kernel_rfl)) (by kernel_rfl) (by kernel_rfl) (by kernel_rfl) (door_met os _)) ?_
  intro W base args ds gs before hval hW _ hz hL _
  have hW' := hW
  obtain ⟨p, q, hA, hV, rfl, hfz, hnd⟩ := hW
  rw [Tryz.params8] at hA
  obtain ⟨v0, v1, d0, d1, p0, p1, e1, rfl, rfl, h0, h1⟩ := trodAll_two hA
  obtain ⟨rfl, rfl⟩ := trodVars_none hV
  have hwt : ∀ (j : Nat) (t : TypeId) (d : DataW H), (Tryz.f8.params.toList ++ DataSpec.varTypes Tryz.checked.prog Rows.lmsTreesSpec.plain)[j]? = some t → ([d0, d1] ++ [])[j]? = some d → ∀ n ∈ d.weights Tryz.prog t, n ≤ reachBytes :=
    fun j t d ht hd n hn => of_decide_eq_true (List.all_eq_true.1 hz n (DataW.weights_mem_each ht hd n hn))
  obtain ⟨x0, ⟨a0, b0, k0⟩, g0⟩ := arg_agg (.inl ⟨_, Tryz.underlying65⟩) op65 (hval 0 65 v0 rfl (by rw [e1]; rfl)) h0 (hwt 0 65 d0 rfl rfl)
  obtain ⟨x1, ⟨a1, _, k1⟩, g1⟩ := arg_one (.inl ⟨_, Tryz.underlying22⟩) op22 (hval 1 22 v1 rfl (by rw [e1]; rfl)) h1 (hwt 1 22 d1 rfl rfl)
  simp only [List.cons.injEq, and_true] at k1
  subst k0 k1
  refine (law_callsG (LmTrees_fun a0 a1 b0.1 b0.2) (of_laid hL) ?_).mono fun e W' ⟨he, hb⟩ => ⟨_, he, post_law rfl hW' rfl rfl rfl rfl Tryz.underlying4 hb Tryz.laidOut ?_⟩
  · rw [e1]; simp only [GL]; exact ⟨_, _, rfl, g0, _, _, rfl, g1, rfl⟩
  · rw [Tryz.params8]; decide +kernel
theorem lmsTrees_f1 : (Rows.lmsTreesRow.inPlace == Tryz.prog.inPlace 8) = true := by kernel_rfl
theorem lmsTrees_f2 : (Rows.lmsTreesRow.unfollowed == Tryz.prog.unfollowed 8) = true := by kernel_rfl
theorem lmsTrees_f3 : (Rows.lmsTreesRow.recurses == Tryz.prog.recurses 8) = true := by kernel_rfl
theorem lmsTrees_f4 : (Rows.lmsTreesRow.named == Tryz.prog.varsNamed 8) = true := by kernel_rfl
theorem lmsTrees_f5 : Rows.lmsTreesRow.wf (OpenSpec.ofChange Rows.lmsTreesSpec) = true := by kernel_rfl
theorem lmsTrees_joined : joinedFacts Tryz.prog 8 Tryz.f8 Rows.lmsTreesSpec Rows.lmsTreesRow = true :=
  joined_cut fWords fLays fRefl fDoor lmsTrees_f5 Tryz.laidOut fRowed (by kernel_rfl) (by kernel_rfl) (by kernel_rfl) fStops (by kernel_rfl) fKnobs lmsTrees_f1 lmsTrees_f2 lmsTrees_f3 lmsTrees_f4
    (by kernel_rfl) (by kernel_rfl) (by kernel_rfl) (by kernel_rfl) (by kernel_rfl) (by kernel_rfl) (by kernel_rfl) (by kernel_rfl) (by kernel_rfl) fPlain (by kernel_rfl) (by kernel_rfl) fHeard (by kernel_rfl) rfl (by kernel_rfl) (by kernel_rfl) (by kernel_rfl) (by kernel_rfl)
theorem lmsTrees_named : Tryz.prog.funcNamed Rows.lmsTreesRow.func = some 8 := by kernel_rfl
theorem lmsTrees_row : Rows.LmsTreesSaid :=
  OpenClaim.holds_of_wide 8 Tryz.f8 rfl rfl rfl rfl rfl rfl rfl ⟨rfl, rfl, rfl, rfl, rfl⟩ rfl rfl rfl rfl rfl lmsTrees_named Tryz.func8 lmsTrees_joined
    (of_decide_eq_true (by kernel_rfl)) (by unfold Func.isWrapper; first | (rw [if_pos (by decide +kernel)]; kernel_rfl) | (rw [if_neg (by decide +kernel)]; exact ⟨rfl, rfl⟩))
    (fun os started H enc _ => lmsTrees_lifted os started H enc)
theorem lmsTrees_goes : false = Rows.lmsTreesRow.goesBy Tryz.prog := by kernel_rfl
theorem lmsTrees_wft : Rows.lmsTreesRow.wfByText (OpenSpec.ofChange Rows.lmsTreesSpec) = true := by kernel_rfl
theorem lmsTrees_holds : Rows.LmsTreesCardSaid :=
  Claim7.holds_tied_plain_at .later [] [.data, .data] true (true, "06509fc3e8edd468d53aaf23e62f6cca9f36ccdf5675f24a8db49316dc45e191") false
    lmsTrees_row (fun _ h => by cases h) lmsTrees_wft (fun _ h => by cases h) lmsTrees_row_tie rfl ⟨rfl, rfl⟩ fMain rfl
    (fun f fn hf hfn => by
      obtain rfl : f = 8 := Option.some.inj (lmsTrees_named.symm.trans hf) |>.symm
      obtain rfl : fn = Tryz.f8 := (Option.some.inj (Tryz.func8.symm.trans hfn)).symm
      exact ⟨fLooks, fun j t ht => by
        rw [Tryz.params8] at ht
        have hm : t ∈ [65, 22] := by simpa using Array.mem_of_getElem? ht
        have hall : ([65, 22].all fun u => !Tryz.prog.wantsStandIn u) = true := by kernel_rfl
        exact (show Tryz.prog.wantsStandIn t = false by simpa using List.all_eq_true.1 hall t hm)⟩)
    lmsTrees_goes
#print axioms lmsTrees_holds
end Go.Proofs.YtjehnljbhmjgoaaGreatDoor
