/- The law XmssSigns: any key's signature of any message with any leaf. -/
import Derived.Test.YtijhplgdhjkdpaaGreatDoorIm
import Derived.Test.YtijhplgdhjkdpaaGreatDoorRf
set_option linter.all false
namespace Go.Proofs.YtijhplgdhjkdpaaGreatDoor
open Go.ChangeShapes Go.WideShapes Go.ChangeAt Go.RowKit Go.Lv

set_option maxRecDepth 100000 in
theorem xmssSigns_lifted (os : Os) (started : os.Started) (H : Type) (enc : TypeId × Value → H) :
    ReturnsInHanded {} Tryz.checked os 6 .any (fun w args => (Rows.xmssSignsSpec.pre enc Tryz.prog Tryz.f6 [] false w args ∧ laidMetH Tryz.prog laidL w) ∧ sizedMet enc Tryz.prog Tryz.f6 (OpenSpec.ofChange Rows.xmssSignsSpec) false w args)
      (Rows.xmssSignsSpec.post enc Tryz.prog Tryz.f6 false true false false) := by
  refine returnsInHanded_of_change_and (C := Tryz.checked) (X := fun w _ => laidMetH Tryz.prog laidL w) (fun _ _ _ hh h => h.of_heap hh) Tryz.own started (by kernel_rfl) Tryz.func6
    (ChangeSpec.witness_shaped (enc := enc) (C := Tryz.checked) (os := os) (X := fun w _ => laidMetH Tryz.prog laidL w) false (World.doorLaid Tryz.prog 4000 os) #[.int .u32 0, .agg #[.slice none 0 0, .slice none 0 0, .slice none 0 0], .int .u32 0, .slice none 0 0] 8 rfl (World.shaped_of_RefB (by kernel_rfl) (by kernel_rfl)) (by kernel_rfl) (by kernel_rfl) (by kernel_rfl) (door_met os _)) ?_
  intro W base args ds gs before hval hW _ hz hL _
  have hW' := hW
  obtain ⟨p, q, hA, hV, rfl, hfz, hnd⟩ := hW
  rw [Tryz.params6] at hA
  obtain ⟨v0, v1, v2, v3, d0, d1, d2, d3, p0, p1, p2, p3, e1, rfl, rfl, h0, h1, h2, h3⟩ := trodAll_four hA
  obtain ⟨rfl, rfl⟩ := trodVars_none hV
  have hwt : ∀ (j : Nat) (t : TypeId) (d : DataW H), (Tryz.f6.params.toList ++ DataSpec.varTypes Tryz.checked.prog Rows.xmssSignsSpec.plain)[j]? = some t → ([d0, d1, d2, d3] ++ [])[j]? = some d → ∀ n ∈ d.weights Tryz.prog t, n ≤ reachBytes :=
    fun j t d ht hd n hn => of_decide_eq_true (List.all_eq_true.1 hz n (DataW.weights_mem_each ht hd n hn))
  obtain ⟨x0, ⟨a0, _, k0⟩, g0⟩ := arg_one (.inl ⟨_, Tryz.underlying22⟩) op22 (hval 0 22 v0 rfl (by rw [e1]; rfl)) h0 (hwt 0 22 d0 rfl rfl)
  obtain ⟨x1, ⟨a1, b1, k1⟩, g1⟩ := arg_agg (.inl ⟨_, Tryz.underlying25⟩) op25 (hval 1 25 v1 rfl (by rw [e1]; rfl)) h1 (hwt 1 25 d1 rfl rfl)
  obtain ⟨x2, ⟨a2, _, k2⟩, g2⟩ := arg_one (.inl ⟨_, Tryz.underlying22⟩) op22 (hval 2 22 v2 rfl (by rw [e1]; rfl)) h2 (hwt 2 22 d2 rfl rfl)
  obtain ⟨x3, ⟨a3, ⟨_, b3⟩, k3⟩, g3⟩ := arg_one (.inr (.inr ⟨_, Tryz.underlying23⟩)) op23 (hval 3 23 v3 rfl (by rw [e1]; rfl)) h3 (hwt 3 23 d3 rfl rfl)
  simp only [List.cons.injEq, and_true] at k0 k2 k3
  subst k0 k1 k2 k3
  refine (law_callsG (XSigns_fun a0 a1 a2 a3 b1 (by omega)) (of_laid hL) ?_).mono fun e W' ⟨he, hb⟩ => ⟨_, he, post_law rfl hW' rfl rfl rfl rfl Tryz.underlying4 hb Tryz.laidOut ?_⟩
  · rw [e1]; simp only [GL]; exact ⟨_, _, rfl, g0, _, _, rfl, g1, _, _, rfl, g2, _, _, rfl, g3, rfl⟩
  · rw [Tryz.params6]; decide +kernel

theorem xmssSigns_f1 : (Rows.xmssSignsRow.inPlace == Tryz.prog.inPlace 6) = true := by kernel_rfl
theorem xmssSigns_f2 : (Rows.xmssSignsRow.unfollowed == Tryz.prog.unfollowed 6) = true := by kernel_rfl
theorem xmssSigns_f3 : (Rows.xmssSignsRow.recurses == Tryz.prog.recurses 6) = true := by kernel_rfl
theorem xmssSigns_f4 : (Rows.xmssSignsRow.named == Tryz.prog.varsNamed 6) = true := by kernel_rfl
theorem xmssSigns_f5 : Rows.xmssSignsRow.wf (OpenSpec.ofChange Rows.xmssSignsSpec) = true := by kernel_rfl
theorem xmssSigns_joined : joinedFacts Tryz.prog 6 Tryz.f6 Rows.xmssSignsSpec Rows.xmssSignsRow = true :=
  joined_cut fWords fLays fRefl fDoor xmssSigns_f5 Tryz.laidOut fRowed (by kernel_rfl) (by kernel_rfl) (by kernel_rfl) fStops (by kernel_rfl) fKnobs xmssSigns_f1 xmssSigns_f2 xmssSigns_f3 xmssSigns_f4
    (by kernel_rfl) (by kernel_rfl) (by kernel_rfl) (by kernel_rfl) (by kernel_rfl) (by kernel_rfl) (by kernel_rfl) (by kernel_rfl) (by kernel_rfl) fPlain (by kernel_rfl) (by kernel_rfl) fHeard (by kernel_rfl) rfl (by kernel_rfl) (by kernel_rfl) (by kernel_rfl) (by kernel_rfl)
theorem xmssSigns_named : Tryz.prog.funcNamed Rows.xmssSignsRow.func = some 6 := by kernel_rfl
theorem xmssSigns_row : Rows.XmssSignsSaid :=
  OpenClaim.holds_of_wide 6 Tryz.f6 rfl rfl rfl rfl rfl rfl rfl ⟨rfl, rfl, rfl, rfl, rfl⟩ rfl rfl rfl rfl rfl xmssSigns_named Tryz.func6 xmssSigns_joined
    (of_decide_eq_true (by kernel_rfl)) (by unfold Func.isWrapper; first | (rw [if_pos (by decide +kernel)]; kernel_rfl) | (rw [if_neg (by decide +kernel)]; exact ⟨rfl, rfl⟩))
    (fun os started H enc _ => xmssSigns_lifted os started H enc)

theorem xmssSigns_goes : false = Rows.xmssSignsRow.goesBy Tryz.prog := by kernel_rfl
theorem xmssSigns_wft : Rows.xmssSignsRow.wfByText (OpenSpec.ofChange Rows.xmssSignsSpec) = true := by kernel_rfl
theorem xmssSigns_holds : Rows.XmssSignsCardSaid :=
  Claim7.holds_tied_plain_at .later [] [.data, .data] true (true, "10a09baddbfcce9bd8a70ca77ac331f43d72abb69a0ea6a57f5a7428d7e74546") false
    xmssSigns_row (fun _ h => by cases h) xmssSigns_wft (fun _ h => by cases h) xmssSigns_row_tie rfl ⟨rfl, rfl⟩ fMain rfl
    (fun f fn hf hfn => by
      obtain rfl : f = 6 := Option.some.inj (xmssSigns_named.symm.trans hf) |>.symm
      obtain rfl : fn = Tryz.f6 := (Option.some.inj (Tryz.func6.symm.trans hfn)).symm
      exact ⟨fLooks, fun j t ht => by
        rw [Tryz.params6] at ht
        have hm : t ∈ [22, 25, 22, 23] := by simpa using Array.mem_of_getElem? ht
        have hall : ([22, 25, 22, 23].all fun u => !Tryz.prog.wantsStandIn u) = true := by kernel_rfl
        exact (show Tryz.prog.wantsStandIn t = false by simpa using List.all_eq_true.1 hall t hm)⟩)
    xmssSigns_goes
#print axioms xmssSigns_holds
end Go.Proofs.YtijhplgdhjkdpaaGreatDoor
