/- The law WotsBelow: of two texts whose digits differ each has a digit that is below that of the other. -/
import Derived.Test.YtmpfooekljbhhaaDoorFd
import Derived.Test.YtmpfooekljbhhaaDoorRf
set_option linter.all false
namespace Go.Proofs.YtmpfooekljbhhaaDoor
open Go.ChangeShapes Go.WideShapes Go.ChangeAt Go.RowKit Go.Lv

set_option maxRecDepth 100000 in
theorem wotsBelow_lifted (os : Os) (started : os.Started) (H : Type) (enc : TypeId × Value → H) :
    ReturnsInHanded {} Tryd.checked os 6 .any (fun w args => (Rows.wotsBelowSpec.pre enc Tryd.prog Tryd.f6 [] false w args ∧ laidMetH Tryd.prog laidL w) ∧ sizedMet enc Tryd.prog Tryd.f6 (OpenSpec.ofChange Rows.wotsBelowSpec) false w args)
      (Rows.wotsBelowSpec.post enc Tryd.prog Tryd.f6 false true false false) := by
  refine returnsInHanded_of_change_and (C := Tryd.checked) (X := fun w _ => laidMetH Tryd.prog laidL w) (fun _ _ _ hh h => h.of_heap hh) Tryd.own started (by kernel_rfl) Tryd.func6
    (ChangeSpec.witness_shaped (enc := enc) (C := Tryd.checked) (os := os) (X := fun w _ => laidMetH Tryd.prog laidL w) false (World.doorLaid Tryd.prog 4000 os) #[.agg #[.int .u32 0, .bool false, .int .i64 0, .int .i64 0, .int .i64 0], .slice none 0 0, .slice none 0 0] 8 rfl (World.shaped_of_RefB (by kernel_rfl) (by kernel_rfl)) (by kernel_rfl) (by kernel_rfl) (by kernel_rfl) (door_met os _)) ?_
  intro W base args ds gs before hval hW _ hz hL _
  have hW' := hW
  obtain ⟨p, q, hA, hV, rfl, hfz, hnd⟩ := hW
  rw [Tryd.params6] at hA
  obtain ⟨v0, v1, v2, d0, d1, d2, p0, p1, p2, e1, rfl, rfl, h0, h1, h2⟩ := trodAll_three hA
  obtain ⟨rfl, rfl⟩ := trodVars_none hV
  have hwt : ∀ (j : Nat) (t : TypeId) (d : DataW H), (Tryd.f6.params.toList ++ DataSpec.varTypes Tryd.checked.prog Rows.wotsBelowSpec.plain)[j]? = some t → ([d0, d1, d2] ++ [])[j]? = some d → ∀ n ∈ d.weights Tryd.prog t, n ≤ reachBytes :=
    fun j t d ht hd n hn => of_decide_eq_true (List.all_eq_true.1 hz n (DataW.weights_mem_each ht hd n hn))
  obtain ⟨x0, ⟨a0, b0, k0⟩, g0⟩ := arg_agg (.inl ⟨_, Tryd.underlying27⟩) op27 (hval 0 27 v0 rfl (by rw [e1]; rfl)) h0 (hwt 0 27 d0 rfl rfl)
  obtain ⟨x1, ⟨a1, ⟨_, b1⟩, k1⟩, g1⟩ := arg_one (.inr (.inr ⟨_, Tryd.underlying23⟩)) op23 (hval 1 23 v1 rfl (by rw [e1]; rfl)) h1 (hwt 1 23 d1 rfl rfl)
  obtain ⟨x2, ⟨a2, ⟨_, b2⟩, k2⟩, g2⟩ := arg_one (.inr (.inr ⟨_, Tryd.underlying23⟩)) op23 (hval 2 23 v2 rfl (by rw [e1]; rfl)) h2 (hwt 2 23 d2 rfl rfl)
  simp only [List.cons.injEq, and_true] at k1 k2
  subst k0 k1 k2
  refine (law_callsG (WBelow_fun a0 a1 a2 b0 (by omega) (by omega)) (of_laid hL) ?_).mono fun e W' ⟨he, hb⟩ => ⟨_, he, post_law rfl hW' rfl rfl rfl rfl Tryd.underlying4 hb Tryd.laidOut ?_⟩
  · rw [e1]; simp only [GL]; exact ⟨_, _, rfl, g0, _, _, rfl, g1, _, _, rfl, g2, rfl⟩
  · rw [Tryd.params6]; decide +kernel

theorem wotsBelow_f1 : (Rows.wotsBelowRow.inPlace == Tryd.prog.inPlace 6) = true := by kernel_rfl
theorem wotsBelow_f2 : (Rows.wotsBelowRow.unfollowed == Tryd.prog.unfollowed 6) = true := by kernel_rfl
theorem wotsBelow_f3 : (Rows.wotsBelowRow.recurses == Tryd.prog.recurses 6) = true := by kernel_rfl
theorem wotsBelow_f4 : (Rows.wotsBelowRow.named == Tryd.prog.varsNamed 6) = true := by kernel_rfl
theorem wotsBelow_f5 : Rows.wotsBelowRow.wf (OpenSpec.ofChange Rows.wotsBelowSpec) = true := by kernel_rfl
theorem wotsBelow_joined : joinedFacts Tryd.prog 6 Tryd.f6 Rows.wotsBelowSpec Rows.wotsBelowRow = true :=
  joined_cut fWords fLays fRefl fDoor wotsBelow_f5 Tryd.laidOut fRowed (by kernel_rfl) (by kernel_rfl) (by kernel_rfl) fStops (by kernel_rfl) fKnobs wotsBelow_f1 wotsBelow_f2 wotsBelow_f3 wotsBelow_f4
    (by kernel_rfl) (by kernel_rfl) (by kernel_rfl) (by kernel_rfl) (by kernel_rfl) (by kernel_rfl) (by kernel_rfl) (by kernel_rfl) (by kernel_rfl) fPlain (by kernel_rfl) (by kernel_rfl) fHeard (by kernel_rfl) rfl (by kernel_rfl) (by kernel_rfl) (by kernel_rfl) (by kernel_rfl)
theorem wotsBelow_named : Tryd.prog.funcNamed Rows.wotsBelowRow.func = some 6 := by kernel_rfl
theorem wotsBelow_row : Rows.WotsBelowSaid :=
  OpenClaim.holds_of_wide 6 Tryd.f6 rfl rfl rfl rfl rfl rfl rfl ⟨rfl, rfl, rfl, rfl, rfl⟩ rfl rfl rfl rfl rfl wotsBelow_named Tryd.func6 wotsBelow_joined
    (of_decide_eq_true (by kernel_rfl)) (by unfold Func.isWrapper; first | (rw [if_pos (by decide +kernel)]; kernel_rfl) | (rw [if_neg (by decide +kernel)]; exact ⟨rfl, rfl⟩))
    (fun os started H enc _ => wotsBelow_lifted os started H enc)

theorem wotsBelow_goes : false = Rows.wotsBelowRow.goesBy Tryd.prog := by kernel_rfl
theorem wotsBelow_wft : Rows.wotsBelowRow.wfByText (OpenSpec.ofChange Rows.wotsBelowSpec) = true := by kernel_rfl
theorem wotsBelow_holds : Rows.WotsBelowCardSaid :=
  Claim7.holds_tied_plain_at .later [] [.data, .data] true (true, "20426d89e038f2697c7132effd71a1a2c8b1afb32b8c091dc9a35aa83bbc1426") false
    wotsBelow_row (fun _ h => by cases h) wotsBelow_wft (fun _ h => by cases h) wotsBelow_row_tie rfl ⟨rfl, rfl⟩ fMain rfl
    (fun f fn hf hfn => by
      obtain rfl : f = 6 := Option.some.inj (wotsBelow_named.symm.trans hf) |>.symm
      obtain rfl : fn = Tryd.f6 := (Option.some.inj (Tryd.func6.symm.trans hfn)).symm
      exact ⟨fLooks, fun j t ht => by
        rw [Tryd.params6] at ht
        have hm : t ∈ [27, 23, 23] := by simpa using Array.mem_of_getElem? ht
        have hall : ([27, 23, 23].all fun u => !Tryd.prog.wantsStandIn u) = true := by kernel_rfl
        exact (show Tryd.prog.wantsStandIn t = false by simpa using List.all_eq_true.1 hall t hm)⟩)
    wotsBelow_goes
#print axioms wotsBelow_holds
end Go.Proofs.YtmpfooekljbhhaaDoor
