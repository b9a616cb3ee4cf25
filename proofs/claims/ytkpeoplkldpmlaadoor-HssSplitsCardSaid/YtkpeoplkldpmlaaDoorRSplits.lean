/- The law HssSplits: the leaves of any index, and the child of any leaf, as the reference says. -/
import Derived.Test.YtkpeoplkldpmlaaDoorRl
import Derived.Test.YtkpeoplkldpmlaaDoorRf
set_option linter.all false
namespace Go.Proofs.YtkpeoplkldpmlaaDoor
open Go.ChangeShapes Go.WideShapes Go.ChangeAt Go.RowKit Go.Lv

set_option maxRecDepth 100000 in
theorem hssSplits_lifted (os : Os) (started : os.Started) (H : Type) (enc : TypeId × Value → H) :
    ReturnsInHanded {} Tryd.checked os 15 .any (fun w args => (Rows.hssSplitsSpec.pre enc Tryd.prog Tryd.f15 [] false w args ∧ laidMetH Tryd.prog laidL w) ∧ sizedMet enc Tryd.prog Tryd.f15 (OpenSpec.ofChange Rows.hssSplitsSpec) false w args)
      (Rows.hssSplitsSpec.post enc Tryd.prog Tryd.f15 false true false false) := by
  refine returnsInHanded_of_change_and (C := Tryd.checked) (X := fun w _ => laidMetH Tryd.prog laidL w) (fun _ _ _ hh h => h.of_heap hh) Tryd.own started (by kernel_rfl) Tryd.func15
    (ChangeSpec.witness_shaped (enc := enc) (C := Tryd.checked) (os := os) (X := fun w _ => laidMetH Tryd.prog laidL w) false (World.doorLaid Tryd.prog 4000 os) #[.slice none 0 0, .int .u64 0, .agg #[.int .u8 0, .int .u8 0, .int .u8 0, .int .u8 0, .int .u8 0, .int .u8 0, .int .u8 0, .int .u8 0, .int .u8 0, .int .u8 0, .int .u8 0, .int .u8 0, .int .u8 0, .int .u8 0, .int .u8 0, .int .u8 0], .slice none 0 0, .int .u32 0] 8 rfl (World.shaped_of_RefB (by kernel_rfl) (by kernel_rfl)) (by kernel_rfl) (by kernel_rfl) (by kernel_rfl) (door_met os _)) ?_
  intro W base args ds gs before hval hW _ hz hL _
  have hW' := hW
  obtain ⟨p, q, hA, hV, rfl, hfz, hnd⟩ := hW
  rw [Tryd.params15] at hA
  obtain ⟨v0, v1, v2, v3, v4, d0, d1, d2, d3, d4, p0, p1, p2, p3, p4, e1, rfl, rfl, h0, h1, h2, h3, h4⟩ := trodAll_five hA
  obtain ⟨rfl, rfl⟩ := trodVars_none hV
  have hwt : ∀ (j : Nat) (t : TypeId) (d : DataW H), (Tryd.f15.params.toList ++ DataSpec.varTypes Tryd.checked.prog Rows.hssSplitsSpec.plain)[j]? = some t → ([d0, d1, d2, d3, d4] ++ [])[j]? = some d → ∀ n ∈ d.weights Tryd.prog t, n ≤ reachBytes :=
    fun j t d ht hd n hn => of_decide_eq_true (List.all_eq_true.1 hz n (DataW.weights_mem_each ht hd n hn))
  obtain ⟨x0, ⟨a0, b0, k0⟩, g0⟩ := arg_one (.inr (.inr ⟨_, Tryd.underlying82⟩)) op82 (hval 0 82 v0 rfl (by rw [e1]; rfl)) h0 (hwt 0 82 d0 rfl rfl)
  obtain ⟨x1, ⟨a1, _, k1⟩, g1⟩ := arg_one (.inl ⟨_, Tryd.underlying83⟩) op83 (hval 1 83 v1 rfl (by rw [e1]; rfl)) h1 (hwt 1 83 d1 rfl rfl)
  obtain ⟨x2, ⟨a2, b2, _, k2⟩, g2⟩ := arg_agg (.inr ⟨_, _, Tryd.underlying35⟩) op35 (hval 2 35 v2 rfl (by rw [e1]; rfl)) h2 (hwt 2 35 d2 rfl rfl)
  obtain ⟨x3, ⟨a3, ⟨_, b3⟩, k3⟩, g3⟩ := arg_one (.inr (.inr ⟨_, Tryd.underlying25⟩)) op25 (hval 3 25 v3 rfl (by rw [e1]; rfl)) h3 (hwt 3 25 d3 rfl rfl)
  obtain ⟨x4, ⟨a4, _, k4⟩, g4⟩ := arg_one (.inl ⟨_, Tryd.underlying22⟩) op22 (hval 4 22 v4 rfl (by rw [e1]; rfl)) h4 (hwt 4 22 d4 rfl rfl)
  simp only [List.cons.injEq, and_true] at k0 k1 k3 k4
  subst k0 k1 k2 k3 k4
  refine (law_callsG (HSplits_fun a0 a1 a2 a3 a4 (by omega) b2 (by omega)) (of_laid hL) ?_).mono fun e W' ⟨he, hb⟩ => ⟨_, he, post_law rfl hW' rfl rfl rfl rfl Tryd.underlying4 hb Tryd.laidOut ?_⟩
  · rw [e1]; simp only [GL]; exact ⟨_, _, rfl, g0, _, _, rfl, g1, _, _, rfl, g2, _, _, rfl, g3, _, _, rfl, g4, rfl⟩
  · rw [Tryd.params15]; decide +kernel

theorem hssSplits_f1 : (Rows.hssSplitsRow.inPlace == Tryd.prog.inPlace 15) = true := by kernel_rfl
theorem hssSplits_f2 : (Rows.hssSplitsRow.unfollowed == Tryd.prog.unfollowed 15) = true := by kernel_rfl
theorem hssSplits_f3 : (Rows.hssSplitsRow.recurses == Tryd.prog.recurses 15) = true := by kernel_rfl
theorem hssSplits_f4 : (Rows.hssSplitsRow.named == Tryd.prog.varsNamed 15) = true := by kernel_rfl
theorem hssSplits_f5 : Rows.hssSplitsRow.wf (OpenSpec.ofChange Rows.hssSplitsSpec) = true := by kernel_rfl
theorem hssSplits_joined : joinedFacts Tryd.prog 15 Tryd.f15 Rows.hssSplitsSpec Rows.hssSplitsRow = true :=
  joined_cut fWords fLays fRefl fDoor hssSplits_f5 Tryd.laidOut fRowed (by kernel_rfl) (by kernel_rfl) (by kernel_rfl) fStops (by kernel_rfl) fKnobs hssSplits_f1 hssSplits_f2 hssSplits_f3 hssSplits_f4
    (by kernel_rfl) (by kernel_rfl) (by kernel_rfl) (by kernel_rfl) (by kernel_rfl) (by kernel_rfl) (by kernel_rfl) (by kernel_rfl) (by kernel_rfl) fPlain (by kernel_rfl) (by kernel_rfl) fHeard (by kernel_rfl) rfl (by kernel_rfl) (by kernel_rfl) (by kernel_rfl) (by kernel_rfl)
theorem hssSplits_named : Tryd.prog.funcNamed Rows.hssSplitsRow.func = some 15 := by kernel_rfl
theorem hssSplits_row : Rows.HssSplitsSaid :=
  OpenClaim.holds_of_wide 15 Tryd.f15 rfl rfl rfl rfl rfl rfl rfl ⟨rfl, rfl, rfl, rfl, rfl⟩ rfl rfl rfl rfl rfl hssSplits_named Tryd.func15 hssSplits_joined
    (of_decide_eq_true (by kernel_rfl)) (by unfold Func.isWrapper; first | (rw [if_pos (by decide +kernel)]; kernel_rfl) | (rw [if_neg (by decide +kernel)]; exact ⟨rfl, rfl⟩))
    (fun os started H enc _ => hssSplits_lifted os started H enc)

theorem hssSplits_goes : false = Rows.hssSplitsRow.goesBy Tryd.prog := by kernel_rfl
theorem hssSplits_wft : Rows.hssSplitsRow.wfByText (OpenSpec.ofChange Rows.hssSplitsSpec) = true := by kernel_rfl
theorem hssSplits_holds : Rows.HssSplitsCardSaid :=
  Claim7.holds_tied_plain_at .later [] [.data, .data] true (true, "530b832309f3b2e7f5e250f4f225ada94d81113330c8d916f60228bf50ddf04d") false
    hssSplits_row (fun _ h => by cases h) hssSplits_wft (fun _ h => by cases h) hssSplits_row_tie rfl ⟨rfl, rfl⟩ fMain rfl
    (fun f fn hf hfn => by
      obtain rfl : f = 15 := Option.some.inj (hssSplits_named.symm.trans hf) |>.symm
      obtain rfl : fn = Tryd.f15 := (Option.some.inj (Tryd.func15.symm.trans hfn)).symm
      exact ⟨fLooks, fun j t ht => by
        rw [Tryd.params15] at ht
        have hm : t ∈ [82, 83, 35, 25, 22] := by simpa using Array.mem_of_getElem? ht
        have hall : ([82, 83, 35, 25, 22].all fun u => !Tryd.prog.wantsStandIn u) = true := by kernel_rfl
        exact (show Tryd.prog.wantsStandIn t = false by simpa using List.all_eq_true.1 hall t hm)⟩)
    hssSplits_goes
#print axioms hssSplits_holds
end Go.Proofs.YtkpeoplkldpmlaaDoor
