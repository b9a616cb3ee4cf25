/- From each leaf of LMS, by its path, one comes to the root. -/
import Derived.Test.YtjehnljbhmjgoaaGreatDoorGP
import Derived.Test.YtjehnljbhmjgoaaGreatDoorRk
import Derived.Test.YtjehnljbhmjgoaaGreatDoorRf
set_option linter.all false
namespace Go.Proofs.YtjehnljbhmjgoaaGreatDoor
open Go.ChangeShapes Go.WideShapes Go.ChangeAt Go.RowKit Go.Lv
set_option maxRecDepth 100000 in
theorem lmsUp_lifted (os : Os) (started : os.Started) (H : Type) (enc : TypeId × Value → H) :
    ReturnsInHanded {} Tryz.checked os 14 .any (fun w args => (Rows.lmsUpSpec.pre enc Tryz.prog Tryz.f14 [] false w args ∧ laidMetH Tryz.prog laidL w) ∧ sizedMet enc Tryz.prog Tryz.f14 (OpenSpec.ofChange Rows.lmsUpSpec) false w args)
      (Rows.lmsUpSpec.post enc Tryz.prog Tryz.f14 false true false false) := by
  refine returnsInHanded_of_change_and (C := Tryz.checked) (X := fun w _ => laidMetH Tryz.prog laidL w) (fun _ _ _ hh h => h.of_heap hh) Tryz.own started (by kernel_rfl) Tryz.func14
    (ChangeSpec.witness_shaped (enc := enc) (C := Tryz.checked) (os := os) (X := fun w _ => laidMetH Tryz.prog laidL w) false (World.doorLaid Tryz.prog 4000 os) #[.agg #[.int .u32 0, .bool false, .int .i64 0, .int .i64 0, .int .u32 0, .bool false, .int .i64 0, .int .i64 0, .int .i64 0, .int .i64 0, .int .u8 0, .int .u8 0, .int .u8 0, .int .u8 0, .int .u8 0, .int .u8 0, .int .u8 0, .int .u8 0, .int .u8 0, .int .u8 0, .int .u8 0, .int .u8 0, .int .u8 0, .int .u8 0, .int .u8 0, .int .u8 0, .slice none 0 0], .int .u32 0] 8 rfl (World.shaped_of_RefB (by kernel_rfl) (by kernel_rfl)) (by kernel_rfl) (by kernel_rfl) (by kernel_rfl) (door_met os _)) ?_
  intro W base args ds gs before hval hW _ hz hL _
  have hW' := hW
  obtain ⟨p, q, hA, hV, rfl, hfz, hnd⟩ := hW
  rw [Tryz.params14] at hA
  obtain ⟨v0, v1, d0, d1, p0, p1, e1, rfl, rfl, h0, h1⟩ := trodAll_two hA
  obtain ⟨rfl, rfl⟩ := trodVars_none hV
  have hwt : ∀ (j : Nat) (t : TypeId) (d : DataW H), (Tryz.f14.params.toList ++ DataSpec.varTypes Tryz.checked.prog Rows.lmsUpSpec.plain)[j]? = some t → ([d0, d1] ++ [])[j]? = some d → ∀ n ∈ d.weights Tryz.prog t, n ≤ reachBytes :=
    fun j t d ht hd n hn => of_decide_eq_true (List.all_eq_true.1 hz n (DataW.weights_mem_each ht hd n hn))
  obtain ⟨x0, ⟨a0, b0, k0⟩, g0⟩ := arg_agg (.inl ⟨_, Tryz.underlying65⟩) op65 (hval 0 65 v0 rfl (by rw [e1]; rfl)) h0 (hwt 0 65 d0 rfl rfl)
  obtain ⟨x1, ⟨a1, _, k1⟩, g1⟩ := arg_one (.inl ⟨_, Tryz.underlying22⟩) op22 (hval 1 22 v1 rfl (by rw [e1]; rfl)) h1 (hwt 1 22 d1 rfl rfl)
  simp only [List.cons.injEq, and_true] at k1
  subst k0 k1
  refine (law_callsG (LmUp_fun a0 a1 b0.1 b0.2) (of_laid hL) ?_).mono fun e W' ⟨he, hb⟩ => ⟨_, he, post_law rfl hW' rfl rfl rfl rfl Tryz.underlying4 hb Tryz.laidOut ?_⟩
  · rw [e1]; simp only [GL]; exact ⟨_, _, rfl, g0, _, _, rfl, g1, rfl⟩
  · rw [Tryz.params14]; decide +kernel
theorem lmsUp_f1 : (Rows.lmsUpRow.inPlace == Tryz.prog.inPlace 14) = true := by kernel_rfl
theorem lmsUp_f2 : (Rows.lmsUpRow.unfollowed == Tryz.prog.unfollowed 14) = true := by kernel_rfl
theorem lmsUp_f3 : (Rows.lmsUpRow.recurses == Tryz.prog.recurses 14) = true := by kernel_rfl
theorem lmsUp_f4 : (Rows.lmsUpRow.named == Tryz.prog.varsNamed 14) = true := by kernel_rfl
theorem lmsUp_f5 : Rows.lmsUpRow.wf (OpenSpec.ofChange Rows.lmsUpSpec) = true := by kernel_rfl
theorem lmsUp_joined : joinedFacts Tryz.prog 14 Tryz.f14 Rows.lmsUpSpec Rows.lmsUpRow = true :=
  joined_cut fWords fLays fRefl fDoor lmsUp_f5 Tryz.laidOut fRowed (by kernel_rfl) (by kernel_rfl) (by kernel_rfl) fStops (by kernel_rfl) fKnobs lmsUp_f1 lmsUp_f2 lmsUp_f3 lmsUp_f4
    (by kernel_rfl) (by kernel_rfl) (by kernel_rfl) (by kernel_rfl) (by kernel_rfl) (by kernel_rfl) (by kernel_rfl) (by kernel_rfl) (by kernel_rfl) fPlain (by kernel_rfl) (by kernel_rfl) fHeard (by kernel_rfl) rfl (by kernel_rfl) (by kernel_rfl) (by kernel_rfl) (by kernel_rfl)
theorem lmsUp_named : Tryz.prog.funcNamed Rows.lmsUpRow.func = some 14 := by kernel_rfl
theorem lmsUp_row : Rows.LmsUpSaid :=
  OpenClaim.holds_of_wide 14 Tryz.f14 rfl rfl rfl rfl rfl rfl rfl ⟨rfl, rfl, rfl, rfl, rfl⟩ rfl rfl rfl rfl rfl lmsUp_named Tryz.func14 lmsUp_joined
    (of_decide_eq_true (by kernel_rfl)) (by unfold Func.isWrapper; first | (rw [if_pos (by decide +kernel)]; kernel_rfl) | (rw [if_neg (by decide +kernel)]; exact ⟨rfl, rfl⟩))
    (fun os started H enc _ => lmsUp_lifted os started H enc)
theorem lmsUp_goes : false = Rows.lmsUpRow.goesBy Tryz.prog := by kernel_rfl
theorem lmsUp_wft : Rows.lmsUpRow.wfByText (OpenSpec.ofChange Rows.lmsUpSpec) = true := by kernel_rfl
theorem lmsUp_holds : Rows.LmsUpCardSaid :=
  Claim7.holds_tied_plain_at .later [] [.data, .data] true (true, "06509fc3e8edd468d53aaf23e62f6cca9f36ccdf5675f24a8db49316dc45e191") false
    lmsUp_row (fun _ h => by cases h) lmsUp_wft (fun _ h => by cases h) lmsUp_row_tie rfl ⟨rfl, rfl⟩ fMain rfl
    (fun f fn hf hfn => by
      obtain rfl : f = 14 := Option.some.inj (lmsUp_named.symm.trans hf) |>.symm
      obtain rfl : fn = Tryz.f14 := (Option.some.inj (Tryz.func14.symm.trans hfn)).symm
      exact ⟨fLooks, fun j t ht => by
        rw [Tryz.params14] at ht
        have hm : t ∈ [65, 22] := by simpa using Array.mem_of_getElem? ht
        have hall : ([65, 22].all fun u => !Tryz.prog.wantsStandIn u) = true := by kernel_rfl
        exact (show Tryz.prog.wantsStandIn t = false by simpa using List.all_eq_true.1 hall t hm)⟩)
    lmsUp_goes
#print axioms lmsUp_holds
end Go.Proofs.YtjehnljbhmjgoaaGreatDoor
