/- Any levels: public key as the document says. -/
import Derived.Test.YtffmejeeddplaaaGreatDoorPb
import Derived.Test.YtffmejeeddplaaaGreatDoorRl
import Derived.Test.YtffmejeeddplaaaGreatDoorRf
set_option linter.all false
namespace Go.Proofs.YtffmejeeddplaaaGreatDoor
open Go.ChangeShapes Go.WideShapes Go.ChangeAt Go.RowKit Go.Lv
set_option maxRecDepth 100000 in
theorem hssPublics_lifted (os : Os) (started : os.Started) (H : Type) (enc : TypeId × Value → H) :
    ReturnsInHanded {} Tryz.checked os 5 .any (fun w args => (Rows.hssPublicsSpec.pre enc Tryz.prog Tryz.f5 [] false w args ∧ laidMetH Tryz.prog laidL w) ∧ sizedMet enc Tryz.prog Tryz.f5 (OpenSpec.ofChange Rows.hssPublicsSpec) false w args)
      (Rows.hssPublicsSpec.post enc Tryz.prog Tryz.f5 false true false false) := by
  refine returnsInHanded_of_change_and (C := Tryz.checked) (X := fun w _ => laidMetH Tryz.prog laidL w) (fun _ _ _ hh h => h.of_heap hh) Tryz.own started (by kernel_rfl) Tryz.func5
    (ChangeSpec.witness_shaped (enc := enc) (C := Tryz.checked) (os := os) (X := fun w _ => laidMetH Tryz.prog laidL w) false (World.doorLaid Tryz.prog 4000 os) #[.slice none 0 0, .agg #[.int .u8 0, .int .u8 0, .int .u8 0, .int .u8 0, .int .u8 0, .int .u8 0, .int .u8 0, .int .u8 0, .int .u8 0, .int .u8 0, .int .u8 0, .int .u8 0, .int .u8 0, .int .u8 0, .int .u8 0, .int .u8 0], .slice none 0 0] 8 rfl (World.shaped_of_RefB (by kernel_rfl) (by kernel_rfl)) (by kernel_rfl) (by kernel_rfl) (by kernel_rfl) (door_met os _)) ?_
  intro W base args ds gs before hval hW _ hz hL _
  have hW' := hW
  obtain ⟨p, q, hA, hV, rfl, hfz, hnd⟩ := hW
  rw [Tryz.params5] at hA
  obtain ⟨v0, v1, v2, d0, d1, d2, p0, p1, p2, e1, rfl, rfl, h0, h1, h2⟩ := trodAll_three hA
  obtain ⟨rfl, rfl⟩ := trodVars_none hV
  have hwt : ∀ (j : Nat) (t : TypeId) (d : DataW H), (Tryz.f5.params.toList ++ DataSpec.varTypes Tryz.checked.prog Rows.hssPublicsSpec.plain)[j]? = some t → ([d0, d1, d2] ++ [])[j]? = some d → ∀ n ∈ d.weights Tryz.prog t, n ≤ reachBytes :=
    fun j t d ht hd n hn => of_decide_eq_true (List.all_eq_true.1 hz n (DataW.weights_mem_each ht hd n hn))
  obtain ⟨x0, ⟨a0, b0, k0⟩, g0⟩ := arg_one (.inr (.inr ⟨_, Tryz.underlying22⟩)) op22 (hval 0 22 v0 rfl (by rw [e1]; rfl)) h0 (hwt 0 22 d0 rfl rfl)
  obtain ⟨x1, ⟨a1, b1, _, k1⟩, g1⟩ := arg_agg (.inr ⟨_, _, Tryz.underlying24⟩) op24 (hval 1 24 v1 rfl (by rw [e1]; rfl)) h1 (hwt 1 24 d1 rfl rfl)
  obtain ⟨x2, ⟨a2, ⟨_, b2⟩, k2⟩, g2⟩ := arg_one (.inr (.inr ⟨_, Tryz.underlying25⟩)) op25 (hval 2 25 v2 rfl (by rw [e1]; rfl)) h2 (hwt 2 25 d2 rfl rfl)
  simp only [List.cons.injEq, and_true] at k0 k2
  subst k0 k1 k2
  refine (law_callsG (HPublics_f a0 a1 a2 (by omega) b1 (by omega)) (of_laid hL) ?_).mono fun e W' ⟨he, hb⟩ => ⟨_, he, post_law rfl hW' rfl rfl rfl rfl Tryz.underlying4 hb Tryz.laidOut ?_⟩
  · rw [e1]; simp only [GL]; exact ⟨_, _, rfl, g0, _, _, rfl, g1, _, _, rfl, g2, rfl⟩
  · rw [Tryz.params5]; decide +kernel
theorem hssPublics_f1 : (Rows.hssPublicsRow.inPlace == Tryz.prog.inPlace 5) = true := by kernel_rfl
theorem hssPublics_f2 : (Rows.hssPublicsRow.unfollowed == Tryz.prog.unfollowed 5) = true := by kernel_rfl
theorem hssPublics_f3 : (Rows.hssPublicsRow.recurses == Tryz.prog.recurses 5) = true := by kernel_rfl
theorem hssPublics_f4 : (Rows.hssPublicsRow.named == Tryz.prog.varsNamed 5) = true := by kernel_rfl
theorem hssPublics_f5 : Rows.hssPublicsRow.wf (OpenSpec.ofChange Rows.hssPublicsSpec) = true := by kernel_rfl
theorem hssPublics_joined : joinedFacts Tryz.prog 5 Tryz.f5 Rows.hssPublicsSpec Rows.hssPublicsRow = true :=
  joined_cut fWords fLays fRefl fDoor hssPublics_f5 Tryz.laidOut fRowed (by kernel_rfl) (by kernel_rfl) (by kernel_rfl) fStops (by kernel_rfl) fKnobs hssPublics_f1 hssPublics_f2 hssPublics_f3 hssPublics_f4
    (by kernel_rfl) (by kernel_rfl) (by kernel_rfl) (by kernel_rfl) (by kernel_rfl) (by kernel_rfl) (by kernel_rfl) (by kernel_rfl) (by kernel_rfl) fPlain (by kernel_rfl) (by kernel_rfl) fHeard (by kernel_rfl) rfl (by kernel_rfl) (by kernel_rfl) (by kernel_rfl) (by kernel_rfl)
theorem hssPublics_named : Tryz.prog.funcNamed Rows.hssPublicsRow.func = some 5 := by kernel_rfl
theorem hssPublics_row : Rows.HssPublicsSaid :=
  OpenClaim.holds_of_wide 5 Tryz.f5 rfl rfl rfl rfl rfl rfl rfl ⟨rfl, rfl, rfl, rfl, rfl⟩ rfl rfl rfl rfl rfl hssPublics_named Tryz.func5 hssPublics_joined
    (of_decide_eq_true (by kernel_rfl)) (by unfold Func.isWrapper; first | (rw [if_pos (by decide +kernel)]; kernel_rfl) | (rw [if_neg (by decide +kernel)]; exact ⟨rfl, rfl⟩))
    (fun os started H enc _ => hssPublics_lifted os started H enc)
theorem hssPublics_goes : false = Rows.hssPublicsRow.goesBy Tryz.prog := by kernel_rfl
theorem hssPublics_wft : Rows.hssPublicsRow.wfByText (OpenSpec.ofChange Rows.hssPublicsSpec) = true := by kernel_rfl
theorem hssPublics_holds : Rows.HssPublicsCardSaid :=
  Claim7.holds_tied_plain_at .later [] [.data, .data] true (true, "747d82a0a5265232487af1ee6fa18fc74b5868772a687c7f83e4b145b463f99a") false
    hssPublics_row (fun _ h => by cases h) hssPublics_wft (fun _ h => by cases h) hssPublics_row_tie rfl ⟨rfl, rfl⟩ fMain rfl
    (fun f fn hf hfn => by
      obtain rfl : f = 5 := Option.some.inj (hssPublics_named.symm.trans hf) |>.symm
      obtain rfl : fn = Tryz.f5 := (Option.some.inj (Tryz.func5.symm.trans hfn)).symm
      exact ⟨fLooks, fun j t ht => by
        rw [Tryz.params5] at ht
        have hm : t ∈ [22, 24, 25] := by simpa using Array.mem_of_getElem? ht
        have hall : ([22, 24, 25].all fun u => !Tryz.prog.wantsStandIn u) = true := by kernel_rfl
        exact (show Tryz.prog.wantsStandIn t = false by simpa using List.all_eq_true.1 hall t hm)⟩)
    hssPublics_goes
#print axioms hssPublics_holds
end Go.Proofs.YtffmejeeddplaaaGreatDoor
