/- The law XmssGrows: a tree that is built leaf by leaf keeps few nodes and yields the root. -/
import Derived.Test.YtjehnljbhmjgoaaGreatDoorIp
import Derived.Test.YtjehnljbhmjgoaaGreatDoorRf
set_option linter.all false
namespace Go.Proofs.YtjehnljbhmjgoaaGreatDoor
open Go.ChangeShapes Go.WideShapes Go.ChangeAt Go.RowKit Go.Lv
set_option maxRecDepth 100000 in
theorem xmssGrows_lifted (os : Os) (started : os.Started) (H : Type) (enc : TypeId × Value → H) :
    ReturnsInHanded {} Tryz.checked os 3 .any (fun w args => (Rows.xmssGrowsSpec.pre enc Tryz.prog Tryz.f3 [] false w args ∧ laidMetH Tryz.prog laidL w) ∧ sizedMet enc Tryz.prog Tryz.f3 (OpenSpec.ofChange Rows.xmssGrowsSpec) false w args)
      (Rows.xmssGrowsSpec.post enc Tryz.prog Tryz.f3 false true false false) := by
  refine returnsInHanded_of_change_and (C := Tryz.checked) (X := fun w _ => laidMetH Tryz.prog laidL w) (fun _ _ _ hh h => h.of_heap hh) Tryz.own started (by kernel_rfl) Tryz.func3
    (ChangeSpec.witness_shaped (enc := enc) (C := Tryz.checked) (os := os) (X := fun w _ => laidMetH Tryz.prog laidL w) false (World.doorLaid Tryz.prog 4000 os) #[.int .u32 0, .agg #[.slice none 0 0, .slice none 0 0, .slice none 0 0]] 8 rfl (World.shaped_of_RefB (by kernel_rfl) (by kernel_rfl)) (by kernel_rfl) (by kernel_rfl) (by kernel_rfl) (door_met os _)) ?_
  intro W base args ds gs before hval hW _ hz hL _
  have hW' := hW
  obtain ⟨p, q, hA, hV, rfl, hfz, hnd⟩ := hW
  rw [Tryz.params3] at hA
  obtain ⟨v0, v1, d0, d1, p0, p1, e1, rfl, rfl, h0, h1⟩ := trodAll_two hA
  obtain ⟨rfl, rfl⟩ := trodVars_none hV
  have hwt : ∀ (j : Nat) (t : TypeId) (d : DataW H), (Tryz.f3.params.toList ++ DataSpec.varTypes Tryz.checked.prog Rows.xmssGrowsSpec.plain)[j]? = some t → ([d0, d1] ++ [])[j]? = some d → ∀ n ∈ d.weights Tryz.prog t, n ≤ reachBytes :=
    fun j t d ht hd n hn => of_decide_eq_true (List.all_eq_true.1 hz n (DataW.weights_mem_each ht hd n hn))
  obtain ⟨x0, ⟨a0, _, k0⟩, g0⟩ := arg_one (.inl ⟨_, Tryz.underlying22⟩) op22 (hval 0 22 v0 rfl (by rw [e1]; rfl)) h0 (hwt 0 22 d0 rfl rfl)
  obtain ⟨x1, ⟨a1, b1, k1⟩, g1⟩ := arg_agg (.inl ⟨_, Tryz.underlying25⟩) op25 (hval 1 25 v1 rfl (by rw [e1]; rfl)) h1 (hwt 1 25 d1 rfl rfl)
  simp only [List.cons.injEq, and_true] at k0
  subst k0 k1
  refine (law_callsG (XGrows_fun a0 a1 b1) (of_laid hL) ?_).mono fun e W' ⟨he, hb⟩ => ⟨_, he, post_law rfl hW' rfl rfl rfl rfl Tryz.underlying4 hb Tryz.laidOut ?_⟩
  · rw [e1]; simp only [GL]; exact ⟨_, _, rfl, g0, _, _, rfl, g1, rfl⟩
  · rw [Tryz.params3]; decide +kernel
theorem xmssGrows_f1 : (Rows.xmssGrowsRow.inPlace == Tryz.prog.inPlace 3) = true := by kernel_rfl
theorem xmssGrows_f2 : (Rows.xmssGrowsRow.unfollowed == Tryz.prog.unfollowed 3) = true := by kernel_rfl
theorem xmssGrows_f3 : (Rows.xmssGrowsRow.recurses == Tryz.prog.recurses 3) = true := by kernel_rfl
theorem xmssGrows_f4 : (Rows.xmssGrowsRow.named == Tryz.prog.varsNamed 3) = true := by kernel_rfl
theorem xmssGrows_f5 : Rows.xmssGrowsRow.wf (OpenSpec.ofChange Rows.xmssGrowsSpec) = true := by kernel_rfl
theorem xmssGrows_joined : joinedFacts Tryz.prog 3 Tryz.f3 Rows.xmssGrowsSpec Rows.xmssGrowsRow = true :=
  joined_cut fWords fLays fRefl fDoor xmssGrows_f5 Tryz.laidOut fRowed (by kernel_rfl) (by kernel_rfl) (by kernel_rfl) fStops (by kernel_rfl) fKnobs xmssGrows_f1 xmssGrows_f2 xmssGrows_f3 xmssGrows_f4
    (by kernel_rfl) (by kernel_rfl) (by kernel_rfl) (by kernel_rfl) (by kernel_rfl) (by kernel_rfl) (by kernel_rfl) (by kernel_rfl) (by kernel_rfl) fPlain (by kernel_rfl) (by kernel_rfl) fHeard (by kernel_rfl) rfl (by kernel_rfl) (by kernel_rfl) (by kernel_rfl) (by kernel_rfl)
theorem xmssGrows_named : Tryz.prog.funcNamed Rows.xmssGrowsRow.func = some 3 := by kernel_rfl
theorem xmssGrows_row : Rows.XmssGrowsSaid :=
  OpenClaim.holds_of_wide 3 Tryz.f3 rfl rfl rfl rfl rfl rfl rfl ⟨rfl, rfl, rfl, rfl, rfl⟩ rfl rfl rfl rfl rfl xmssGrows_named Tryz.func3 xmssGrows_joined
    (of_decide_eq_true (by kernel_rfl)) (by unfold Func.isWrapper; first | (rw [if_pos (by decide +kernel)]; kernel_rfl) | (rw [if_neg (by decide +kernel)]; exact ⟨rfl, rfl⟩))
    (fun os started H enc _ => xmssGrows_lifted os started H enc)
theorem xmssGrows_goes : false = Rows.xmssGrowsRow.goesBy Tryz.prog := by kernel_rfl
theorem xmssGrows_wft : Rows.xmssGrowsRow.wfByText (OpenSpec.ofChange Rows.xmssGrowsSpec) = true := by kernel_rfl
theorem xmssGrows_holds : Rows.XmssGrowsCardSaid :=
  Claim7.holds_tied_plain_at .later [] [.data, .data] true (true, "06509fc3e8edd468d53aaf23e62f6cca9f36ccdf5675f24a8db49316dc45e191") false
    xmssGrows_row (fun _ h => by cases h) xmssGrows_wft (fun _ h => by cases h) xmssGrows_row_tie rfl ⟨rfl, rfl⟩ fMain rfl
    (fun f fn hf hfn => by
      obtain rfl : f = 3 := Option.some.inj (xmssGrows_named.symm.trans hf) |>.symm
      obtain rfl : fn = Tryz.f3 := (Option.some.inj (Tryz.func3.symm.trans hfn)).symm
      exact ⟨fLooks, fun j t ht => by
        rw [Tryz.params3] at ht
        have hm : t ∈ [22, 25] := by simpa using Array.mem_of_getElem? ht
        have hall : ([22, 25].all fun u => !Tryz.prog.wantsStandIn u) = true := by kernel_rfl
        exact (show Tryz.prog.wantsStandIn t = false by simpa using List.all_eq_true.1 hall t hm)⟩)
    xmssGrows_goes
#print axioms xmssGrows_holds
end Go.Proofs.YtjehnljbhmjgoaaGreatDoor
