/- Whether any signature of LMS is right, for any public key and text: the code answers as the document; which leaf made it. -/
import Derived.Test.YtjehnljbhmjgoaaGreatDoorGN
import Derived.Test.YtjehnljbhmjgoaaGreatDoorRf
set_option linter.all false
namespace Go.Proofs.YtjehnljbhmjgoaaGreatDoor
open Go.ChangeShapes Go.WideShapes Go.ChangeAt Go.RowKit Go.Lv
set_option maxRecDepth 100000 in
theorem lmsVerifies_lifted (os : Os) (started : os.Started) (H : Type) (enc : TypeId × Value → H) :
    ReturnsInHanded {} Tryz.checked os 7 .any (fun w args => (Rows.lmsVerifiesSpec.pre enc Tryz.prog Tryz.f7 [] false w args ∧ laidMetH Tryz.prog laidL w) ∧ sizedMet enc Tryz.prog Tryz.f7 (OpenSpec.ofChange Rows.lmsVerifiesSpec) false w args)
      (Rows.lmsVerifiesSpec.post enc Tryz.prog Tryz.f7 false true false false) := by
  refine returnsInHanded_of_change_and (C := Tryz.checked) (X := fun w _ => laidMetH Tryz.prog laidL w) (fun _ _ _ hh h => h.of_heap hh) Tryz.own started (by kernel_rfl) Tryz.func7
    (ChangeSpec.witness_shaped (enc := enc) (C := Tryz.checked) (os := os) (X := fun w _ => laidMetH Tryz.prog laidL w) false (World.doorLaid Tryz.prog 4000 os) #[.slice none 0 0, .slice none 0 0, .slice none 0 0] 8 rfl (World.shaped_of_RefB (by kernel_rfl) (by kernel_rfl)) (by kernel_rfl) (by kernel_rfl) (by kernel_rfl) (door_met os _)) ?_
  intro W base args ds gs before hval hW _ hz hL _
  have hW' := hW
  obtain ⟨p, q, hA, hV, rfl, hfz, hnd⟩ := hW
  rw [Tryz.params7] at hA
  obtain ⟨v0, v1, v2, d0, d1, d2, p0, p1, p2, e1, rfl, rfl, h0, h1, h2⟩ := trodAll_three hA
  obtain ⟨rfl, rfl⟩ := trodVars_none hV
  have hwt : ∀ (j : Nat) (t : TypeId) (d : DataW H), (Tryz.f7.params.toList ++ DataSpec.varTypes Tryz.checked.prog Rows.lmsVerifiesSpec.plain)[j]? = some t → ([d0, d1, d2] ++ [])[j]? = some d → ∀ n ∈ d.weights Tryz.prog t, n ≤ reachBytes :=
    fun j t d ht hd n hn => of_decide_eq_true (List.all_eq_true.1 hz n (DataW.weights_mem_each ht hd n hn))
  obtain ⟨x0, ⟨a0, ⟨_, b0⟩, k0⟩, g0⟩ := arg_one (.inr (.inr ⟨_, Tryz.underlying23⟩)) op23 (hval 0 23 v0 rfl (by rw [e1]; rfl)) h0 (hwt 0 23 d0 rfl rfl)
  obtain ⟨x1, ⟨a1, ⟨_, b1⟩, k1⟩, g1⟩ := arg_one (.inr (.inr ⟨_, Tryz.underlying23⟩)) op23 (hval 1 23 v1 rfl (by rw [e1]; rfl)) h1 (hwt 1 23 d1 rfl rfl)
  obtain ⟨x2, ⟨a2, ⟨_, b2⟩, k2⟩, g2⟩ := arg_one (.inr (.inr ⟨_, Tryz.underlying23⟩)) op23 (hval 2 23 v2 rfl (by rw [e1]; rfl)) h2 (hwt 2 23 d2 rfl rfl)
  simp only [List.cons.injEq, and_true] at k0 k1 k2
  subst k0 k1 k2
  refine (law_callsG (LVerifies_fun a0 a1 a2 (by omega) (by omega) (by omega)) (of_laid hL) ?_).mono fun e W' ⟨he, hb⟩ => ⟨_, he, post_law rfl hW' rfl rfl rfl rfl Tryz.underlying4 hb Tryz.laidOut ?_⟩
  · rw [e1]; simp only [GL]; exact ⟨_, _, rfl, g0, _, _, rfl, g1, _, _, rfl, g2, rfl⟩
  · rw [Tryz.params7]; decide +kernel
theorem lmsVerifies_f1 : (Rows.lmsVerifiesRow.inPlace == Tryz.prog.inPlace 7) = true := by kernel_rfl
theorem lmsVerifies_f2 : (Rows.lmsVerifiesRow.unfollowed == Tryz.prog.unfollowed 7) = true := by kernel_rfl
theorem lmsVerifies_f3 : (Rows.lmsVerifiesRow.recurses == Tryz.prog.recurses 7) = true := by kernel_rfl
theorem lmsVerifies_f4 : (Rows.lmsVerifiesRow.named == Tryz.prog.varsNamed 7) = true := by kernel_rfl
theorem lmsVerifies_f5 : Rows.lmsVerifiesRow.wf (OpenSpec.ofChange Rows.lmsVerifiesSpec) = true := by kernel_rfl
theorem lmsVerifies_joined : joinedFacts Tryz.prog 7 Tryz.f7 Rows.lmsVerifiesSpec Rows.lmsVerifiesRow = true :=
  joined_cut fWords fLays fRefl fDoor lmsVerifies_f5 Tryz.laidOut fRowed (by kernel_rfl) (by kernel_rfl) (by kernel_rfl) fStops (by kernel_rfl) fKnobs lmsVerifies_f1 lmsVerifies_f2 lmsVerifies_f3 lmsVerifies_f4
    (by kernel_rfl) (by kernel_rfl) (by kernel_rfl) (by kernel_rfl) (by kernel_rfl) (by kernel_rfl) (by kernel_rfl) (by kernel_rfl) (by kernel_rfl) fPlain (by kernel_rfl) (by kernel_rfl) fHeard (by kernel_rfl) rfl (by kernel_rfl) (by kernel_rfl) (by kernel_rfl) (by kernel_rfl)
theorem lmsVerifies_named : Tryz.prog.funcNamed Rows.lmsVerifiesRow.func = some 7 := by kernel_rfl
theorem lmsVerifies_row : Rows.LmsVerifiesSaid :=
  OpenClaim.holds_of_wide 7 Tryz.f7 rfl rfl rfl rfl rfl rfl rfl ⟨rfl, rfl, rfl, rfl, rfl⟩ rfl rfl rfl rfl rfl lmsVerifies_named Tryz.func7 lmsVerifies_joined
    (of_decide_eq_true (by kernel_rfl)) (by unfold Func.isWrapper; first | (rw [if_pos (by decide +kernel)]; kernel_rfl) | (rw [if_neg (by decide +kernel)]; exact ⟨rfl, rfl⟩))
    (fun os started H enc _ => lmsVerifies_lifted os started H enc)
theorem lmsVerifies_goes : false = Rows.lmsVerifiesRow.goesBy Tryz.prog := by kernel_rfl
theorem lmsVerifies_wft : Rows.lmsVerifiesRow.wfByText (OpenSpec.ofChange Rows.lmsVerifiesSpec) = true := by kernel_rfl
theorem lmsVerifies_holds : Rows.LmsVerifiesCardSaid :=
  Claim7.holds_tied_plain_at .later [] [.data, .data] true (true, "06509fc3e8edd468d53aaf23e62f6cca9f36ccdf5675f24a8db49316dc45e191") false
    lmsVerifies_row (fun _ h => by cases h) lmsVerifies_wft (fun _ h => by cases h) lmsVerifies_row_tie rfl ⟨rfl, rfl⟩ fMain rfl
    (fun f fn hf hfn => by
      obtain rfl : f = 7 := Option.some.inj (lmsVerifies_named.symm.trans hf) |>.symm
      obtain rfl : fn = Tryz.f7 := (Option.some.inj (Tryz.func7.symm.trans hfn)).symm
      exact ⟨fLooks, fun j t ht => by
        rw [Tryz.params7] at ht
        have hm : t ∈ [23, 23, 23] := by simpa using Array.mem_of_getElem? ht
        have hall : ([23, 23, 23].all fun u => !Tryz.prog.wantsStandIn u) = true := by kernel_rfl
        exact (show Tryz.prog.wantsStandIn t = false by simpa using List.all_eq_true.1 hall t hm)⟩)
    lmsVerifies_goes
#print axioms lmsVerifies_holds
end Go.Proofs.YtjehnljbhmjgoaaGreatDoor
