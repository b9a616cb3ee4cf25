/- Behind n leaves as many nodes are kept as n has digits 1; behind all of them the top is the root. -/
import Derived.Test.YtjehnljbhmjgoaaGreatDoorGR
import Derived.Test.YtjehnljbhmjgoaaGreatDoorRk
import Derived.Test.YtjehnljbhmjgoaaGreatDoorRf
set_option linter.all false
namespace Go.Proofs.YtjehnljbhmjgoaaGreatDoor
open Go.ChangeShapes Go.WideShapes Go.ChangeAt Go.RowKit Go.Lv
set_option maxRecDepth 100000 in
theorem lmsFew_lifted (os : Os) (started : os.Started) (H : Type) (enc : TypeId × Value → H) :
    ReturnsInHanded {} Tryz.checked os 12 .any (fun w args => (Rows.lmsFewSpec.pre enc Tryz.prog Tryz.f12 [] false w args ∧ laidMetH Tryz.prog laidL w) ∧ sizedMet enc Tryz.prog Tryz.f12 (OpenSpec.ofChange Rows.lmsFewSpec) false w args)
      (Rows.lmsFewSpec.post enc Tryz.prog Tryz.f12 false true false false) := by
  refine returnsInHanded_of_change_and (C := Tryz.checked) (X := fun w _ => laidMetH Tryz.prog laidL w) (fun _ _ _ hh h => h.of_heap hh) Tryz.own started (by kernel_rfl) Tryz.func12
    (ChangeSpec.witness_shaped (enc := enc) (C := Tryz.checked) (os := os) (X := fun w _ => laidMetH Tryz.prog laidL w) false (World.doorLaid Tryz.prog 4000 os) #[.agg #[.int .u32 0, .bool false, .int .i64 0, .int .i64 0, .int .u32 0, .bool false, .int .i64 0, .int .i64 0, .int .i64 0, .int .i64 0, .int .u8 0, .int .u8 0, .int .u8 0, .int .u8 0, .int .u8 0, .int .u8 0, .int .u8 0, .int .u8 0, .int .u8 0, .int .u8 0, .int .u8 0, .int .u8 0, .int .u8 0, .int .u8 0, .int .u8 0, .int .u8 0, .slice none 0 0]] 8 rfl (World.shaped_of_RefB (by kernel_rfl) (by kernel_rfl)) (by kernel_rfl) (by kernel_rfl) (by kernel_rfl) (door_met os _)) ?_
  intro W base args ds gs before hval hW _ hz hL _
  have hW' := hW
  obtain ⟨p, q, hA, hV, rfl, hfz, hnd⟩ := hW
  rw [Tryz.params12] at hA
  obtain ⟨v0, d0, e1, rfl, h0⟩ := trodAll_one hA
  obtain ⟨rfl, rfl⟩ := trodVars_none hV
  have hwt : ∀ (j : Nat) (t : TypeId) (d : DataW H), (Tryz.f12.params.toList ++ DataSpec.varTypes Tryz.checked.prog Rows.lmsFewSpec.plain)[j]? = some t → ([d0] ++ [])[j]? = some d → ∀ n ∈ d.weights Tryz.prog t, n ≤ reachBytes :=
    fun j t d ht hd n hn => of_decide_eq_true (List.all_eq_true.1 hz n (DataW.weights_mem_each ht hd n hn))
  obtain ⟨x0, ⟨a0, b0, k0⟩, g0⟩ := arg_agg (.inl ⟨_, Tryz.underlying65⟩) op65 (hval 0 65 v0 rfl (by rw [e1]; rfl)) h0 (hwt 0 65 d0 rfl rfl)
  subst k0
  refine (law_callsG (LmFew_fun a0 b0.1 b0.2) (of_laid hL) ?_).mono fun e W' ⟨he, hb⟩ => ⟨_, he, post_law rfl hW' rfl rfl rfl rfl Tryz.underlying4 hb Tryz.laidOut ?_⟩
  · rw [e1]; simp only [GL]; exact ⟨_, _, rfl, g0, rfl⟩
  · rw [Tryz.params12]; decide +kernel
theorem lmsFew_f1 : (Rows.lmsFewRow.inPlace == Tryz.prog.inPlace 12) = true := by kernel_rfl
theorem lmsFew_f2 : (Rows.lmsFewRow.unfollowed == Tryz.prog.unfollowed 12) = true := by kernel_rfl
theorem lmsFew_f3 : (Rows.lmsFewRow.recurses == Tryz.prog.recurses 12) = true := by kernel_rfl
theorem lmsFew_f4 : (Rows.lmsFewRow.named == Tryz.prog.varsNamed 12) = true := by kernel_rfl
theorem lmsFew_f5 : Rows.lmsFewRow.wf (OpenSpec.ofChange Rows.lmsFewSpec) = true := by kernel_rfl
theorem lmsFew_joined : joinedFacts Tryz.prog 12 Tryz.f12 Rows.lmsFewSpec Rows.lmsFewRow = true :=
  joined_cut fWords fLays fRefl fDoor lmsFew_f5 Tryz.laidOut fRowed (by kernel_rfl) (by kernel_rfl) (by kernel_rfl) fStops (by kernel_rfl) fKnobs lmsFew_f1 lmsFew_f2 lmsFew_f3 lmsFew_f4
    (by kernel_rfl) (by kernel_rfl) (by kernel_rfl) (by kernel_rfl) (by kernel_rfl) (by kernel_rfl) (by kernel_rfl) (by kernel_rfl) (by kernel_rfl) fPlain (by kernel_rfl) (by kernel_rfl) fHeard (by kernel_rfl) rfl (by kernel_rfl) (by kernel_rfl) (by kernel_rfl) (by kernel_rfl)
theorem lmsFew_named : Tryz.prog.funcNamed Rows.lmsFewRow.func = some 12 := by kernel_rfl
theorem lmsFew_row : Rows.LmsFewSaid :=
  OpenClaim.holds_of_wide 12 Tryz.f12 rfl rfl rfl rfl rfl rfl rfl ⟨rfl, rfl, rfl, rfl, rfl⟩ rfl rfl rfl rfl rfl lmsFew_named Tryz.func12 lmsFew_joined
    (of_decide_eq_true (by kernel_rfl)) (by unfold Func.isWrapper; first | (rw [if_pos (by decide +kernel)]; kernel_rfl) | (rw [if_neg (by decide +kernel)]; exact ⟨rfl, rfl⟩))
    (fun os started H enc _ => lmsFew_lifted os started H enc)
theorem lmsFew_goes : false = Rows.lmsFewRow.goesBy Tryz.prog := by kernel_rfl
theorem lmsFew_wft : Rows.lmsFewRow.wfByText (OpenSpec.ofChange Rows.lmsFewSpec) = true := by kernel_rfl
theorem lmsFew_holds : Rows.LmsFewCardSaid :=
  Claim7.holds_tied_plain_at .later [] [.data, .data] true (true, "06509fc3e8edd468d53aaf23e62f6cca9f36ccdf5675f24a8db49316dc45e191") false
    lmsFew_row (fun _ h => by cases h) lmsFew_wft (fun _ h => by cases h) lmsFew_row_tie rfl ⟨rfl, rfl⟩ fMain rfl
    (fun f fn hf hfn => by
      obtain rfl : f = 12 := Option.some.inj (lmsFew_named.symm.trans hf) |>.symm
      obtain rfl : fn = Tryz.f12 := (Option.some.inj (Tryz.func12.symm.trans hfn)).symm
      exact ⟨fLooks, fun j t ht => by
        rw [Tryz.params12] at ht
        have hm : t ∈ [65] := by simpa using Array.mem_of_getElem? ht
        have hall : ([65].all fun u => !Tryz.prog.wantsStandIn u) = true := by kernel_rfl
        exact (show Tryz.prog.wantsStandIn t = false by simpa using List.all_eq_true.1 hall t hm)⟩)
    lmsFew_goes
#print axioms lmsFew_holds
end Go.Proofs.YtjehnljbhmjgoaaGreatDoor
