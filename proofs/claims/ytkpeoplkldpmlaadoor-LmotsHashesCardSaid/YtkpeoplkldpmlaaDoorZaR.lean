/- LmotsHashes: for every code and all parts the law returns true and leaves its arguments as they were. Condition: the variables of package sha2 read as their initialisers lay them, which the card ties to the text. -/
import Derived.Test.YtkpeoplkldpmlaaDoorZa
import Derived.Test.YtkpeoplkldpmlaaDoorRf
set_option linter.all false
namespace Go.Proofs.YtkpeoplkldpmlaaDoor
open Go.ChangeShapes Go.WideShapes Go.ChangeAt Go.RowKit Go.Lv

set_option maxRecDepth 100000 in
theorem lmotsHashes_lifted (os : Os) (started : os.Started) (H : Type) (enc : TypeId × Value → H) :
    ReturnsInHanded {} Tryd.checked os 3 .any (fun w args => (Rows.lmotsHashesSpec.pre enc Tryd.prog Tryd.f3 [] false w args ∧ laidMetH Tryd.prog laidL w) ∧ sizedMet enc Tryd.prog Tryd.f3 (OpenSpec.ofChange Rows.lmotsHashesSpec) false w args)
      (Rows.lmotsHashesSpec.post enc Tryd.prog Tryd.f3 false true false false) := by
  refine returnsInHanded_of_change_and (C := Tryd.checked) (X := fun w _ => laidMetH Tryd.prog laidL w) (fun _ _ _ hh h => h.of_heap hh) Tryd.own started (by kernel_rfl) Tryd.func3
    (ChangeSpec.witness_shaped (enc := enc) (C := Tryd.checked) (os := os) (X := fun w _ => laidMetH Tryd.prog laidL w) false (World.doorLaid Tryd.prog 4000 os) #[.int .u32 0, .slice none 0 0] 8 rfl (World.shaped_of_RefB (by kernel_rfl) (by kernel_rfl)) (by kernel_rfl) (by kernel_rfl) (by kernel_rfl) (door_met os _)) ?_
  intro W base args ds gs before hval hW _ hz hL _
  have hW' := hW
  obtain ⟨p, q, hA, hV, rfl, hfz, hnd⟩ := hW
  rw [Tryd.params3] at hA
  obtain ⟨v0, v1, d0, d1, p0, p1, e1, rfl, rfl, h0, h1⟩ := trodAll_two hA
  obtain ⟨rfl, rfl⟩ := trodVars_none hV
  have hwt : ∀ (j : Nat) (t : TypeId) (d : DataW H), (Tryd.f3.params.toList ++ DataSpec.varTypes Tryd.checked.prog Rows.lmotsHashesSpec.plain)[j]? = some t → ([d0, d1] ++ [])[j]? = some d → ∀ n ∈ d.weights Tryd.prog t, n ≤ reachBytes :=
    fun j t d ht hd n hn => of_decide_eq_true (List.all_eq_true.1 hz n (DataW.weights_mem_each ht hd n hn))
  obtain ⟨x0, ⟨a0, _, k0⟩, g0⟩ := arg_one (.inl ⟨_, Tryd.underlying22⟩) op22 (hval 0 22 v0 rfl (by rw [e1]; rfl)) h0 (hwt 0 22 d0 rfl rfl)
  obtain ⟨x1, ⟨a1, ⟨c1, b1⟩, k1⟩, g1⟩ := arg_one (.inr (.inr ⟨_, Tryd.underlying23⟩)) op23 (hval 1 23 v1 rfl (by rw [e1]; rfl)) h1 (hwt 1 23 d1 rfl rfl)
  simp only [List.cons.injEq, and_true] at k0 k1
  subst k0 k1
  refine (law_callsG (LHashes_fun a0 a1 (fun x hx => by have := (c1 x hx).2; omega) (by omega)) (of_laid hL) ?_).mono fun e W' ⟨he, hb⟩ => ⟨_, he, post_law rfl hW' rfl rfl rfl rfl Tryd.underlying4 hb Tryd.laidOut ?_⟩
  · rw [e1]; simp only [GL]; exact ⟨_, _, rfl, g0, _, _, rfl, g1, rfl⟩
  · rw [Tryd.params3]; decide +kernel

theorem lmotsHashes_f1 : (Rows.lmotsHashesRow.inPlace == Tryd.prog.inPlace 3) = true := by kernel_rfl
theorem lmotsHashes_f2 : (Rows.lmotsHashesRow.unfollowed == Tryd.prog.unfollowed 3) = true := by kernel_rfl
theorem lmotsHashes_f3 : (Rows.lmotsHashesRow.recurses == Tryd.prog.recurses 3) = true := by kernel_rfl
theorem lmotsHashes_f4 : (Rows.lmotsHashesRow.named == Tryd.prog.varsNamed 3) = true := by kernel_rfl
theorem lmotsHashes_f5 : Rows.lmotsHashesRow.wf (OpenSpec.ofChange Rows.lmotsHashesSpec) = true := by kernel_rfl
theorem lmotsHashes_joined : joinedFacts Tryd.prog 3 Tryd.f3 Rows.lmotsHashesSpec Rows.lmotsHashesRow = true :=
  joined_cut fWords fLays fRefl fDoor lmotsHashes_f5 Tryd.laidOut fRowed (by kernel_rfl) (by kernel_rfl) (by kernel_rfl) fStops (by kernel_rfl) fKnobs lmotsHashes_f1 lmotsHashes_f2 lmotsHashes_f3 lmotsHashes_f4
    (by kernel_rfl) (by kernel_rfl) (by kernel_rfl) (by kernel_rfl) (by kernel_rfl) (by kernel_rfl) (by kernel_rfl) (by kernel_rfl) (by kernel_rfl) fPlain (by kernel_rfl) (by kernel_rfl) fHeard (by kernel_rfl) rfl (by kernel_rfl) (by kernel_rfl) (by kernel_rfl) (by kernel_rfl)
theorem lmotsHashes_named : Tryd.prog.funcNamed Rows.lmotsHashesRow.func = some 3 := by kernel_rfl
theorem lmotsHashes_row : Rows.LmotsHashesSaid :=
  OpenClaim.holds_of_wide 3 Tryd.f3 rfl rfl rfl rfl rfl rfl rfl ⟨rfl, rfl, rfl, rfl, rfl⟩ rfl rfl rfl rfl rfl lmotsHashes_named Tryd.func3 lmotsHashes_joined
    (of_decide_eq_true (by kernel_rfl)) (by unfold Func.isWrapper; first | (rw [if_pos (by decide +kernel)]; kernel_rfl) | (rw [if_neg (by decide +kernel)]; exact ⟨rfl, rfl⟩))
    (fun os started H enc _ => lmotsHashes_lifted os started H enc)

theorem lmotsHashes_goes : false = Rows.lmotsHashesRow.goesBy Tryd.prog := by kernel_rfl
theorem lmotsHashes_wft : Rows.lmotsHashesRow.wfByText (OpenSpec.ofChange Rows.lmotsHashesSpec) = true := by kernel_rfl
theorem lmotsHashes_holds : Rows.LmotsHashesCardSaid :=
  Claim7.holds_tied_plain_at .later [] [.data, .data] true (true, "530b832309f3b2e7f5e250f4f225ada94d81113330c8d916f60228bf50ddf04d") false
    lmotsHashes_row (fun _ h => by cases h) lmotsHashes_wft (fun _ h => by cases h) lmotsHashes_row_tie rfl ⟨rfl, rfl⟩ fMain rfl
    (fun f fn hf hfn => by
      obtain rfl : f = 3 := Option.some.inj (lmotsHashes_named.symm.trans hf) |>.symm
      obtain rfl : fn = Tryd.f3 := (Option.some.inj (Tryd.func3.symm.trans hfn)).symm
      exact ⟨fLooks, fun j t ht => by
        rw [Tryd.params3] at ht
        have hm : t ∈ [22, 23] := by simpa using Array.mem_of_getElem? ht
        have hall : ([22, 23].all fun u => !Tryd.prog.wantsStandIn u) = true := by kernel_rfl
        exact (show Tryd.prog.wantsStandIn t = false by simpa using List.all_eq_true.1 hall t hm)⟩)
    lmotsHashes_goes
#print axioms lmotsHashes_holds
end Go.Proofs.YtkpeoplkldpmlaaDoor
