/- The law XmssNone: a tree that no call made tells that it was not made. -/
import Derived.Test.YtmpfooekljbhhaaDoorHj
import Derived.Test.YtmpfooekljbhhaaDoorRf
set_option linter.all false
namespace Go.Proofs.YtmpfooekljbhhaaDoor
open Go.ChangeShapes Go.WideShapes Go.ChangeAt Go.RowKit Go.Lv

set_option maxRecDepth 100000 in
theorem xmssNone_lifted (os : Os) (started : os.Started) (H : Type) (enc : TypeId × Value → H) :
    ReturnsInHanded {} Tryd.checked os 14 .any (fun w args => (Rows.xmssNoneSpec.pre enc Tryd.prog Tryd.f14 [] false w args ∧ laidMetH Tryd.prog laidL w) ∧ sizedMet enc Tryd.prog Tryd.f14 (OpenSpec.ofChange Rows.xmssNoneSpec) false w args)
      (Rows.xmssNoneSpec.post enc Tryd.prog Tryd.f14 false true false false) := by
  refine returnsInHanded_of_change_and (C := Tryd.checked) (X := fun w _ => laidMetH Tryd.prog laidL w) (fun _ _ _ hh h => h.of_heap hh) Tryd.own started (by kernel_rfl) Tryd.func14
    (ChangeSpec.witness_shaped (enc := enc) (C := Tryd.checked) (os := os) (X := fun w _ => laidMetH Tryd.prog laidL w) false (World.doorLaid Tryd.prog 4000 os) #[.int .i64 0] 8 rfl (World.shaped_of_RefB (by kernel_rfl) (by kernel_rfl)) (by kernel_rfl) (by kernel_rfl) (by kernel_rfl) (door_met os _)) ?_
  intro W base args ds gs before hval hW _ hz hL _
  have hW' := hW
  obtain ⟨p, q, hA, hV, rfl, hfz, hnd⟩ := hW
  rw [Tryd.params14] at hA
  obtain ⟨v0, d0, e1, rfl, h0⟩ := trodAll_one hA
  obtain ⟨rfl, rfl⟩ := trodVars_none hV
  have hwt : ∀ (j : Nat) (t : TypeId) (d : DataW H), (Tryd.f14.params.toList ++ DataSpec.varTypes Tryd.checked.prog Rows.xmssNoneSpec.plain)[j]? = some t → ([d0] ++ [])[j]? = some d → ∀ n ∈ d.weights Tryd.prog t, n ≤ reachBytes :=
    fun j t d ht hd n hn => of_decide_eq_true (List.all_eq_true.1 hz n (DataW.weights_mem_each ht hd n hn))
  obtain ⟨x0, ⟨a0, b0, k0⟩, g0⟩ := arg_one (.inl ⟨_, Tryd.underlying3⟩) op3 (hval 0 3 v0 rfl (by rw [e1]; rfl)) h0 (hwt 0 3 d0 rfl rfl)
  simp only [List.cons.injEq, and_true] at k0
  subst k0
  refine (law_callsG (XNone_fun a0 b0) (of_laid hL) ?_).mono fun e W' ⟨he, hb⟩ => ⟨_, he, post_law rfl hW' rfl rfl rfl rfl Tryd.underlying4 hb Tryd.laidOut ?_⟩
  · rw [e1]; simp only [GL]; exact ⟨_, _, rfl, g0, rfl⟩
  · rw [Tryd.params14]; decide +kernel

theorem xmssNone_f1 : (Rows.xmssNoneRow.inPlace == Tryd.prog.inPlace 14) = true := by kernel_rfl
theorem xmssNone_f2 : (Rows.xmssNoneRow.unfollowed == Tryd.prog.unfollowed 14) = true := by kernel_rfl
theorem xmssNone_f3 : (Rows.xmssNoneRow.recurses == Tryd.prog.recurses 14) = true := by kernel_rfl
theorem xmssNone_f4 : (Rows.xmssNoneRow.named == Tryd.prog.varsNamed 14) = true := by kernel_rfl
theorem xmssNone_f5 : Rows.xmssNoneRow.wf (OpenSpec.ofChange Rows.xmssNoneSpec) = true := by kernel_rfl
theorem xmssNone_joined : joinedFacts Tryd.prog 14 Tryd.f14 Rows.xmssNoneSpec Rows.xmssNoneRow = true :=
  joined_cut fWords fLays fRefl fDoor xmssNone_f5 Tryd.laidOut fRowed (by kernel_rfl) (by kernel_rfl) (by kernel_rfl) fStops (by kernel_rfl) fKnobs xmssNone_f1 xmssNone_f2 xmssNone_f3 xmssNone_f4
    (by kernel_rfl) (by kernel_rfl) (by kernel_rfl) (by kernel_rfl) (by kernel_rfl) (by kernel_rfl) (by kernel_rfl) (by kernel_rfl) (by kernel_rfl) fPlain (by kernel_rfl) (by kernel_rfl) fHeard (by kernel_rfl) rfl (by kernel_rfl) (by kernel_rfl) (by kernel_rfl) (by kernel_rfl)
theorem xmssNone_named : Tryd.prog.funcNamed Rows.xmssNoneRow.func = some 14 := by kernel_rfl
theorem xmssNone_row : Rows.XmssNoneSaid :=
  OpenClaim.holds_of_wide 14 Tryd.f14 rfl rfl rfl rfl rfl rfl rfl ⟨rfl, rfl, rfl, rfl, rfl⟩ rfl rfl rfl rfl rfl xmssNone_named Tryd.func14 xmssNone_joined
    (of_decide_eq_true (by kernel_rfl)) (by unfold Func.isWrapper; first | (rw [if_pos (by decide +kernel)]; kernel_rfl) | (rw [if_neg (by decide +kernel)]; exact ⟨rfl, rfl⟩))
    (fun os started H enc _ => xmssNone_lifted os started H enc)

theorem xmssNone_goes : false = Rows.xmssNoneRow.goesBy Tryd.prog := by kernel_rfl
theorem xmssNone_wft : Rows.xmssNoneRow.wfByText (OpenSpec.ofChange Rows.xmssNoneSpec) = true := by kernel_rfl
theorem xmssNone_holds : Rows.XmssNoneCardSaid :=
  Claim7.holds_tied_plain_at .later [] [.data, .data] true (true, "20426d89e038f2697c7132effd71a1a2c8b1afb32b8c091dc9a35aa83bbc1426") false
    xmssNone_row (fun _ h => by cases h) xmssNone_wft (fun _ h => by cases h) xmssNone_row_tie rfl ⟨rfl, rfl⟩ fMain rfl
    (fun f fn hf hfn => by
      obtain rfl : f = 14 := Option.some.inj (xmssNone_named.symm.trans hf) |>.symm
      obtain rfl : fn = Tryd.f14 := (Option.some.inj (Tryd.func14.symm.trans hfn)).symm
      exact ⟨fLooks, fun j t ht => by
        rw [Tryd.params14] at ht
        have hm : t ∈ [3] := by simpa using Array.mem_of_getElem? ht
        have hall : ([3].all fun u => !Tryd.prog.wantsStandIn u) = true := by kernel_rfl
        exact (show Tryd.prog.wantsStandIn t = false by simpa using List.all_eq_true.1 hall t hm)⟩)
    xmssNone_goes
#print axioms xmssNone_holds
end Go.Proofs.YtmpfooekljbhhaaDoor
