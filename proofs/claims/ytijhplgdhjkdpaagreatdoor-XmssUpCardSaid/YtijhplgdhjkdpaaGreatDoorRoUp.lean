/- The law XmssUp: the path of each leaf leads to the root. -/
import Derived.Test.YtijhplgdhjkdpaaGreatDoorHy
import Derived.Test.YtijhplgdhjkdpaaGreatDoorRf
set_option linter.all false
namespace Go.Proofs.YtijhplgdhjkdpaaGreatDoor
open Go.ChangeShapes Go.WideShapes Go.ChangeAt Go.RowKit Go.Lv

set_option maxRecDepth 100000 in
theorem xmssUp_lifted (os : Os) (started : os.Started) (H : Type) (enc : TypeId × Value → H) :
    ReturnsInHanded {} Tryz.checked os 4 .any (fun w args => (Rows.xmssUpSpec.pre enc Tryz.prog Tryz.f4 [] false w args ∧ laidMetH Tryz.prog laidL w) ∧ sizedMet enc Tryz.prog Tryz.f4 (OpenSpec.ofChange Rows.xmssUpSpec) false w args)
      (Rows.xmssUpSpec.post enc Tryz.prog Tryz.f4 false true false false) := by
  refine returnsInHanded_of_change_and (C := Tryz.checked) (X := fun w _ => laidMetH Tryz.prog laidL w) (fun _ _ _ hh h => h.of_heap hh) Tryz.own started (by kernel_rfl) Tryz.func4
    (ChangeSpec.witness_shaped (enc := enc) (C := Tryz.checked) (os := os) (X := fun w _ => laidMetH Tryz.prog laidL w) false (World.doorLaid Tryz.prog 4000 os) #[.int .u32 0, .agg #[.slice none 0 0, .slice none 0 0, .slice none 0 0], .int .u32 0] 8 rfl (World.shaped_of_RefB (by kernel_rfl) (by kernel_rfl)) (by kernel_rfl) (by kernel_rfl) (by kernel_rfl) (door_met os _)) ?_
  intro W base args ds gs before hval hW _ hz hL _
  have hW' := hW
  obtain ⟨p, q, hA, hV, rfl, hfz, hnd⟩ := hW
  rw [Tryz.params4] at hA
  obtain ⟨v0, v1, v2, d0, d1, d2, p0, p1, p2, e1, rfl, rfl, h0, h1, h2⟩ := trodAll_three hA
  obtain ⟨rfl, rfl⟩ := trodVars_none hV
  have hwt : ∀ (j : Nat) (t : TypeId) (d : DataW H), (Tryz.f4.params.toList ++ DataSpec.varTypes Tryz.checked.prog Rows.xmssUpSpec.plain)[j]? = some t → ([d0, d1, d2] ++ [])[j]? = some d → ∀ n ∈ d.weights Tryz.prog t, n ≤ reachBytes :=
    fun j t d ht hd n hn => of_decide_eq_true (List.all_eq_true.1 hz n (DataW.weights_mem_each ht hd n hn))
  obtain ⟨x0, ⟨a0, _, k0⟩, g0⟩ := arg_one (.inl ⟨_, Tryz.underlying22⟩) op22 (hval 0 22 v0 rfl (by rw [e1]; rfl)) h0 (hwt 0 22 d0 rfl rfl)
  obtain ⟨x1, ⟨a1, b1, k1⟩, g1⟩ := arg_agg (.inl ⟨_, Tryz.underlying25⟩) op25 (hval 1 25 v1 rfl (by rw [e1]; rfl)) h1 (hwt 1 25 d1 rfl rfl)
  obtain ⟨x2, ⟨a2, _, k2⟩, g2⟩ := arg_one (.inl ⟨_, Tryz.underlying22⟩) op22 (hval 2 22 v2 rfl (by rw [e1]; rfl)) h2 (hwt 2 22 d2 rfl rfl)
  simp only [List.cons.injEq, and_true] at k0 k2
  subst k0 k1 k2
  refine (law_callsG (XUp_fun a0 a1 a2 b1) (of_laid hL) ?_).mono fun e W' ⟨he, hb⟩ => ⟨_, he, post_law rfl hW' rfl rfl rfl rfl Tryz.underlying4 hb Tryz.laidOut ?_⟩
  · rw [e1]; simp only [GL]; exact ⟨_, _, rfl, g0, _, _, rfl, g1, _, _, rfl, g2, rfl⟩
  · rw [Tryz.params4]; decide +kernel

theorem xmssUp_f1 : (Rows.xmssUpRow.inPlace == Tryz.prog.inPlace 4) = true := by kernel_rfl
theorem xmssUp_f2 : (Rows.xmssUpRow.unfollowed == Tryz.prog.unfollowed 4) = true := by kernel_rfl
theorem xmssUp_f3 : (Rows.xmssUpRow.recurses == Tryz.prog.recurses 4) = true := by kernel_rfl
theorem xmssUp_f4 : (Rows.xmssUpRow.named == Tryz.prog.varsNamed 4) = true := by kernel_rfl
theorem xmssUp_f5 : Rows.xmssUpRow.wf (OpenSpec.ofChange Rows.xmssUpSpec) = true := by kernel_rfl
theorem xmssUp_joined : joinedFacts Tryz.prog 4 Tryz.f4 Rows.xmssUpSpec Rows.xmssUpRow = true :=
  joined_cut fWords fLays fRefl fDoor xmssUp_f5 Tryz.laidOut fRowed (by kernel_rfl) (by kernel_rfl) (by kernel_rfl) fStops (by kernel_rfl) fKnobs xmssUp_f1 xmssUp_f2 xmssUp_f3 xmssUp_f4
    (by kernel_rfl) (by kernel_rfl) (by kernel_rfl) (by kernel_rfl) (by kernel_rfl) (by kernel_rfl) (by kernel_rfl) (by kernel_rfl) (by kernel_rfl) fPlain (by kernel_rfl) (by kernel_rfl) fHeard (by kernel_rfl) rfl (by kernel_rfl) (by kernel_rfl) (by kernel_rfl) (by kernel_rfl)
theorem xmssUp_named : Tryz.prog.funcNamed Rows.xmssUpRow.func = some 4 := by kernel_rfl
theorem xmssUp_row : Rows.XmssUpSaid :=
  OpenClaim.holds_of_wide 4 Tryz.f4 rfl rfl rfl rfl rfl rfl rfl ⟨rfl, rfl, rfl, rfl, rfl⟩ rfl rfl rfl rfl rfl xmssUp_named Tryz.func4 xmssUp_joined
    (of_decide_eq_true (by kernel_rfl)) (by unfold Func.isWrapper; first | (rw [if_pos (by decide +kernel)]; kernel_rfl) | (rw [if_neg (by decide +kernel)]; exact ⟨rfl, rfl⟩))
    (fun os started H enc _ => xmssUp_lifted os started H enc)

theorem xmssUp_goes : false = Rows.xmssUpRow.goesBy Tryz.prog := by kernel_rfl
theorem xmssUp_wft : Rows.xmssUpRow.wfByText (OpenSpec.ofChange Rows.xmssUpSpec) = true := by kernel_rfl
theorem xmssUp_holds : Rows.XmssUpCardSaid :=
  Claim7.holds_tied_plain_at .later [] [.data, .data] true (true, "10a09baddbfcce9bd8a70ca77ac331f43d72abb69a0ea6a57f5a7428d7e74546") false
    xmssUp_row (fun _ h => by cases h) xmssUp_wft (fun _ h => by cases h) xmssUp_row_tie rfl ⟨rfl, rfl⟩ fMain rfl
    (fun f fn hf hfn => by
      obtain rfl : f = 4 := Option.some.inj (xmssUp_named.symm.trans hf) |>.symm
      obtain rfl : fn = Tryz.f4 := (Option.some.inj (Tryz.func4.symm.trans hfn)).symm
      exact ⟨fLooks, fun j t ht => by
        rw [Tryz.params4] at ht
        have hm : t ∈ [22, 25, 22] := by simpa using Array.mem_of_getElem? ht
        have hall : ([22, 25, 22].all fun u => !Tryz.prog.wantsStandIn u) = true := by kernel_rfl
        exact (show Tryz.prog.wantsStandIn t = false by simpa using List.all_eq_true.1 hall t hm)⟩)
    xmssUp_goes
#print axioms xmssUp_holds
end Go.Proofs.YtijhplgdhjkdpaaGreatDoor
