/- The law LmotsOwn: what was signed is right, again and again the same. -/
import Derived.Test.YtjenbilhieomoaaDoorJm
import Derived.Test.YtjenbilhieomoaaDoorRf
set_option linter.all false
namespace Go.Proofs.YtjenbilhieomoaaDoor
open Go.ChangeShapes Go.WideShapes Go.ChangeAt Go.RowKit Go.Lv

set_option maxRecDepth 100000 in
theorem lmotsOwn_lifted (os : Os) (started : os.Started) (H : Type) (enc : TypeId × Value → H) :
    ReturnsInHanded {} Tryd.checked os 3 .any (fun w args => (Rows.lmotsOwnSpec.pre enc Tryd.prog Tryd.f3 [] false w args ∧ laidMetH Tryd.prog laidL w) ∧ sizedMet enc Tryd.prog Tryd.f3 (OpenSpec.ofChange Rows.lmotsOwnSpec) false w args)
      (Rows.lmotsOwnSpec.post enc Tryd.prog Tryd.f3 false true false false) := by
  refine returnsInHanded_of_change_and (C := Tryd.checked) (X := fun w _ => laidMetH Tryd.prog laidL w) (fun _ _ _ hh h => h.of_heap hh) Tryd.own started (by kernel_rfl) Tryd.func3
    (ChangeSpec.witness_shaped (enc := enc) (C := Tryd.checked) (os := os) (X := fun w _ => laidMetH Tryd.prog laidL w) false (World.doorLaid Tryd.prog 4000 os) #[.agg #[.int .u32 0, .int .u8 0, .int .u8 0, .int .u8 0, .int .u8 0, .int .u8 0, .int .u8 0, .int .u8 0, .int .u8 0, .int .u8 0, .int .u8 0, .int .u8 0, .int .u8 0, .int .u8 0, .int .u8 0, .int .u8 0, .int .u8 0, .int .u32 0, .slice none 0 0], .slice none 0 0] 8 rfl (World.shaped_of_RefB (by kernel_rfl) (by kernel_rfl)) (by kernel_rfl) (by kernel_rfl) (by kernel_rfl) (door_met os _)) ?_
  intro W base args ds gs before hval hW _ hz hL _
  have hW' := hW
  obtain ⟨p, q, hA, hV, rfl, hfz, hnd⟩ := hW
  rw [Tryd.params3] at hA
  obtain ⟨v0, v1, d0, d1, p0, p1, e1, rfl, rfl, h0, h1⟩ := trodAll_two hA
  obtain ⟨rfl, rfl⟩ := trodVars_none hV
  have hwt : ∀ (j : Nat) (t : TypeId) (d : DataW H), (Tryd.f3.params.toList ++ DataSpec.varTypes Tryd.checked.prog Rows.lmotsOwnSpec.plain)[j]? = some t → ([d0, d1] ++ [])[j]? = some d → ∀ n ∈ d.weights Tryd.prog t, n ≤ reachBytes :=
    fun j t d ht hd n hn => of_decide_eq_true (List.all_eq_true.1 hz n (DataW.weights_mem_each ht hd n hn))
  obtain ⟨x0, ⟨a0, b0, k0⟩, g0⟩ := arg_agg (.inl ⟨_, Tryd.underlying26⟩) op26 (hval 0 26 v0 rfl (by rw [e1]; rfl)) h0 (hwt 0 26 d0 rfl rfl)
  obtain ⟨x1, ⟨a1, ⟨_, b1⟩, k1⟩, g1⟩ := arg_one (.inr (.inr ⟨_, Tryd.underlying24⟩)) op24 (hval 1 24 v1 rfl (by rw [e1]; rfl)) h1 (hwt 1 24 d1 rfl rfl)
  simp only [List.cons.injEq, and_true] at k1
  subst k0 k1
  refine (law_callsG (LOwn_fun a0 a1 b0 (by omega)) (of_laid hL) ?_).mono fun e W' ⟨he, hb⟩ => ⟨_, he, post_law rfl hW' rfl rfl rfl rfl Tryd.underlying4 hb Tryd.laidOut ?_⟩
  · rw [e1]; simp only [GL]; exact ⟨_, _, rfl, g0, _, _, rfl, g1, rfl⟩
  · rw [Tryd.params3]; decide +kernel

theorem lmotsOwn_f1 : (Rows.lmotsOwnRow.inPlace == Tryd.prog.inPlace 3) = true := by kernel_rfl
theorem lmotsOwn_f2 : (Rows.lmotsOwnRow.unfollowed == Tryd.prog.unfollowed 3) = true := by kernel_rfl
theorem lmotsOwn_f3 : (Rows.lmotsOwnRow.recurses == Tryd.prog.recurses 3) = true := by kernel_rfl
theorem lmotsOwn_f4 : (Rows.lmotsOwnRow.named == Tryd.prog.varsNamed 3) = true := by kernel_rfl
theorem lmotsOwn_f5 : Rows.lmotsOwnRow.wf (OpenSpec.ofChange Rows.lmotsOwnSpec) = true := by kernel_rfl
theorem lmotsOwn_joined : joinedFacts Tryd.prog 3 Tryd.f3 Rows.lmotsOwnSpec Rows.lmotsOwnRow = true :=
  joined_cut fWords fLays fRefl fDoor lmotsOwn_f5 Tryd.laidOut fRowed (by kernel_rfl) (by kernel_rfl) (by kernel_rfl) fStops (by kernel_rfl) fKnobs lmotsOwn_f1 lmotsOwn_f2 lmotsOwn_f3 lmotsOwn_f4
    (by kernel_rfl) (by kernel_rfl) (by kernel_rfl) (by kernel_rfl) (by kernel_rfl) (by kernel_rfl) (by kernel_rfl) (by kernel_rfl) (by kernel_rfl) fPlain (by kernel_rfl) (by kernel_rfl) fHeard (by kernel_rfl) rfl (by kernel_rfl) (by kernel_rfl) (by kernel_rfl) (by kernel_rfl)
theorem lmotsOwn_named : Tryd.prog.funcNamed Rows.lmotsOwnRow.func = some 3 := by kernel_rfl
theorem lmotsOwn_row : Rows.LmotsOwnSaid :=
  OpenClaim.holds_of_wide 3 Tryd.f3 rfl rfl rfl rfl rfl rfl rfl ⟨rfl, rfl, rfl, rfl, rfl⟩ rfl rfl rfl rfl rfl lmotsOwn_named Tryd.func3 lmotsOwn_joined
    (of_decide_eq_true (by kernel_rfl)) (by unfold Func.isWrapper; first | (rw [if_pos (by decide +kernel)]; kernel_rfl) | (rw [if_neg (by decide +kernel)]; exact ⟨rfl, rfl⟩))
    (fun os started H enc _ => lmotsOwn_lifted os started H enc)

theorem lmotsOwn_goes : false = Rows.lmotsOwnRow.goesBy Tryd.prog := by kernel_rfl
theorem lmotsOwn_wft : Rows.lmotsOwnRow.wfByText (OpenSpec.ofChange Rows.lmotsOwnSpec) = true := by kernel_rfl
theorem lmotsOwn_holds : Rows.LmotsOwnCardSaid :=
  Claim7.holds_tied_plain_at .later [] [.data, .data] true (true, "77fbf97f8dcd6777025d1166debc5f45b1d8c08e7b13a151211c56bedb9783ca") false
    lmotsOwn_row (fun _ h => by cases h) lmotsOwn_wft (fun _ h => by cases h) lmotsOwn_row_tie rfl ⟨rfl, rfl⟩ fMain rfl
    (fun f fn hf hfn => by
      obtain rfl : f = 3 := Option.some.inj (lmotsOwn_named.symm.trans hf) |>.symm
      obtain rfl : fn = Tryd.f3 := (Option.some.inj (Tryd.func3.symm.trans hfn)).symm
      exact ⟨fLooks, fun j t ht => by
        rw [Tryd.params3] at ht
        have hm : t ∈ [26, 24] := by simpa using Array.mem_of_getElem? ht
        have hall : ([26, 24].all fun u => !Tryd.prog.wantsStandIn u) = true := by kernel_rfl
        exact (show Tryd.prog.wantsStandIn t = false by simpa using List.all_eq_true.1 hall t hm)⟩)
    lmotsOwn_goes
#print axioms lmotsOwn_holds
end Go.Proofs.YtjenbilhieomoaaDoor
