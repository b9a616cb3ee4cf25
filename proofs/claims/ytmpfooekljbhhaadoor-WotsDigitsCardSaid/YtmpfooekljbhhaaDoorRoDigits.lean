/- The law WotsDigits: any text's digits, and its checksum's, are what the reference says. -/
import Derived.Test.YtmpfooekljbhhaaDoorGF
import Derived.Test.YtmpfooekljbhhaaDoorRf
set_option linter.all false
namespace Go.Proofs.YtmpfooekljbhhaaDoor
open Go.ChangeShapes Go.WideShapes Go.ChangeAt Go.RowKit Go.Lv

set_option maxRecDepth 100000 in
theorem wotsDigits_lifted (os : Os) (started : os.Started) (H : Type) (enc : TypeId × Value → H) :
    ReturnsInHanded {} Tryd.checked os 5 .any (fun w args => (Rows.wotsDigitsSpec.pre enc Tryd.prog Tryd.f5 [] false w args ∧ laidMetH Tryd.prog laidL w) ∧ sizedMet enc Tryd.prog Tryd.f5 (OpenSpec.ofChange Rows.wotsDigitsSpec) false w args)
      (Rows.wotsDigitsSpec.post enc Tryd.prog Tryd.f5 false true false false) := by
  refine returnsInHanded_of_change_and (C := Tryd.checked) (X := fun w _ => laidMetH Tryd.prog laidL w) (fun _ _ _ hh h => h.of_heap hh) Tryd.own started (by kernel_rfl) Tryd.func5
    (ChangeSpec.witness_shaped (enc := enc) (C := Tryd.checked) (os := os) (X := fun w _ => laidMetH Tryd.prog laidL w) false (World.doorLaid Tryd.prog 4000 os) #[.agg #[.int .u32 0, .bool false, .int .i64 0, .int .i64 0, .int .i64 0], .slice none 0 0] 8 rfl (World.shaped_of_RefB (by kernel_rfl) (by kernel_rfl)) (by kernel_rfl) (by kernel_rfl) (by kernel_rfl) (door_met os _)) ?_
  intro W base args ds gs before hval hW _ hz hL _
  have hW' := hW
  obtain ⟨p, q, hA, hV, rfl, hfz, hnd⟩ := hW
  rw [Tryd.params5] at hA
  obtain ⟨v0, v1, d0, d1, p0, p1, e1, rfl, rfl, h0, h1⟩ := trodAll_two hA
  obtain ⟨rfl, rfl⟩ := trodVars_none hV
  have hwt : ∀ (j : Nat) (t : TypeId) (d : DataW H), (Tryd.f5.params.toList ++ DataSpec.varTypes Tryd.checked.prog Rows.wotsDigitsSpec.plain)[j]? = some t → ([d0, d1] ++ [])[j]? = some d → ∀ n ∈ d.weights Tryd.prog t, n ≤ reachBytes :=
    fun j t d ht hd n hn => of_decide_eq_true (List.all_eq_true.1 hz n (DataW.weights_mem_each ht hd n hn))
  obtain ⟨x0, ⟨a0, b0, k0⟩, g0⟩ := arg_agg (.inl ⟨_, Tryd.underlying27⟩) op27 (hval 0 27 v0 rfl (by rw [e1]; rfl)) h0 (hwt 0 27 d0 rfl rfl)
  obtain ⟨x1, ⟨a1, ⟨_, b1⟩, k1⟩, g1⟩ := arg_one (.inr (.inr ⟨_, Tryd.underlying23⟩)) op23 (hval 1 23 v1 rfl (by rw [e1]; rfl)) h1 (hwt 1 23 d1 rfl rfl)
  simp only [List.cons.injEq, and_true] at k1
  subst k0 k1
  refine (law_callsG (WLDigits_fun a0 a1 b0 (by omega)) (of_laid hL) ?_).mono fun e W' ⟨he, hb⟩ => ⟨_, he, post_law rfl hW' rfl rfl rfl rfl Tryd.underlying4 hb Tryd.laidOut ?_⟩
  · rw [e1]; simp only [GL]; exact ⟨_, _, rfl, g0, _, _, rfl, g1, rfl⟩
  · rw [Tryd.params5]; decide +kernel

theorem wotsDigits_f1 : (Rows.wotsDigitsRow.inPlace == Tryd.prog.inPlace 5) = true := by kernel_rfl
theorem wotsDigits_f2 : (Rows.wotsDigitsRow.unfollowed == Tryd.prog.unfollowed 5) = true := by kernel_rfl
theorem wotsDigits_f3 : (Rows.wotsDigitsRow.recurses == Tryd.prog.recurses 5) = true := by kernel_rfl
theorem wotsDigits_f4 : (Rows.wotsDigitsRow.named == Tryd.prog.varsNamed 5) = true := by kernel_rfl
theorem wotsDigits_f5 : Rows.wotsDigitsRow.wf (OpenSpec.ofChange Rows.wotsDigitsSpec) = true := by kernel_rfl
theorem wotsDigits_joined : joinedFacts Tryd.prog 5 Tryd.f5 Rows.wotsDigitsSpec Rows.wotsDigitsRow = true :=
  joined_cut fWords fLays fRefl fDoor wotsDigits_f5 Tryd.laidOut fRowed (by kernel_rfl) (by kernel_rfl) (by kernel_rfl) fStops (by kernel_rfl) fKnobs wotsDigits_f1 wotsDigits_f2 wotsDigits_f3 wotsDigits_f4
    (by kernel_rfl) (by kernel_rfl) (by kernel_rfl) (by kernel_rfl) (by kernel_rfl) (by kernel_rfl) (by kernel_rfl) (by kernel_rfl) (by kernel_rfl) fPlain (by kernel_rfl) (by kernel_rfl) fHeard (by kernel_rfl) rfl (by kernel_rfl) (by kernel_rfl) (by kernel_rfl) (by kernel_rfl)
theorem wotsDigits_named : Tryd.prog.funcNamed Rows.wotsDigitsRow.func = some 5 := by kernel_rfl
theorem wotsDigits_row : Rows.WotsDigitsSaid :=
  OpenClaim.holds_of_wide 5 Tryd.f5 rfl rfl rfl rfl rfl rfl rfl ⟨rfl, rfl, rfl, rfl, rfl⟩ rfl rfl rfl rfl rfl wotsDigits_named Tryd.func5 wotsDigits_joined
    (of_decide_eq_true (by kernel_rfl)) (by unfold Func.isWrapper; first | (rw [if_pos (by decide +kernel)]; kernel_rfl) | (rw [if_neg (by decide +kernel)]; exact ⟨rfl, rfl⟩))
    (fun os started H enc _ => wotsDigits_lifted os started H enc)

theorem wotsDigits_goes : false = Rows.wotsDigitsRow.goesBy Tryd.prog := by kernel_rfl
theorem wotsDigits_wft : Rows.wotsDigitsRow.wfByText (OpenSpec.ofChange Rows.wotsDigitsSpec) = true := by kernel_rfl
theorem wotsDigits_holds : Rows.WotsDigitsCardSaid :=
  Claim7.holds_tied_plain_at .later [] [.data, .data] true (true, "20426d89e038f2697c7132effd71a1a2c8b1afb32b8c091dc9a35aa83bbc1426") false
    wotsDigits_row (fun _ h => by cases h) wotsDigits_wft (fun _ h => by cases h) wotsDigits_row_tie rfl ⟨rfl, rfl⟩ fMain rfl
    (fun f fn hf hfn => by
      obtain rfl : f = 5 := Option.some.inj (wotsDigits_named.symm.trans hf) |>.symm
      obtain rfl : fn = Tryd.f5 := (Option.some.inj (Tryd.func5.symm.trans hfn)).symm
      exact ⟨fLooks, fun j t ht => by
        rw [Tryd.params5] at ht
        have hm : t ∈ [27, 23] := by simpa using Array.mem_of_getElem? ht
        have hall : ([27, 23].all fun u => !Tryd.prog.wantsStandIn u) = true := by kernel_rfl
        exact (show Tryd.prog.wantsStandIn t = false by simpa using List.all_eq_true.1 hall t hm)⟩)
    wotsDigits_goes
#print axioms wotsDigits_holds
end Go.Proofs.YtmpfooekljbhhaaDoor
