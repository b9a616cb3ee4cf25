/- The law XmssNodes: any two texts' node, with any address, is what the reference says. -/
import Derived.Test.YtmpfooekljbhhaaDoorHe
import Derived.Test.YtmpfooekljbhhaaDoorRl
import Derived.Test.YtmpfooekljbhhaaDoorRf
set_option linter.all false
namespace Go.Proofs.YtmpfooekljbhhaaDoor
open Go.ChangeShapes Go.WideShapes Go.ChangeAt Go.RowKit Go.Lv

set_option maxRecDepth 100000 in
theorem xmssNodes_lifted (os : Os) (started : os.Started) (H : Type) (enc : TypeId × Value → H) :
    ReturnsInHanded {} Tryd.checked os 3 .any (fun w args => (Rows.xmssNodesSpec.pre enc Tryd.prog Tryd.f3 [] false w args ∧ laidMetH Tryd.prog laidL w) ∧ sizedMet enc Tryd.prog Tryd.f3 (OpenSpec.ofChange Rows.xmssNodesSpec) false w args)
      (Rows.xmssNodesSpec.post enc Tryd.prog Tryd.f3 false true false false) := by
  refine returnsInHanded_of_change_and (C := Tryd.checked) (X := fun w _ => laidMetH Tryd.prog laidL w) (fun _ _ _ hh h => h.of_heap hh) Tryd.own started (by kernel_rfl) Tryd.func3
    (ChangeSpec.witness_shaped (enc := enc) (C := Tryd.checked) (os := os) (X := fun w _ => laidMetH Tryd.prog laidL w) false (World.doorLaid Tryd.prog 4000 os) #[.int .u32 0, .slice none 0 0, .agg #[.int .u32 0, .int .u32 0, .int .u32 0, .int .u32 0, .int .u32 0, .int .u32 0, .int .u32 0, .int .u32 0], .slice none 0 0, .slice none 0 0] 8 rfl (World.shaped_of_RefB (by kernel_rfl) (by kernel_rfl)) (by kernel_rfl) (by kernel_rfl) (by kernel_rfl) (door_met os _)) ?_
  intro W base args ds gs before hval hW _ hz hL _
  have hW' := hW
  obtain ⟨p, q, hA, hV, rfl, hfz, hnd⟩ := hW
  rw [Tryd.params3] at hA
  obtain ⟨v0, v1, v2, v3, v4, d0, d1, d2, d3, d4, p0, p1, p2, p3, p4, e1, rfl, rfl, h0, h1, h2, h3, h4⟩ := trodAll_five hA
  obtain ⟨rfl, rfl⟩ := trodVars_none hV
  have hwt : ∀ (j : Nat) (t : TypeId) (d : DataW H), (Tryd.f3.params.toList ++ DataSpec.varTypes Tryd.checked.prog Rows.xmssNodesSpec.plain)[j]? = some t → ([d0, d1, d2, d3, d4] ++ [])[j]? = some d → ∀ n ∈ d.weights Tryd.prog t, n ≤ reachBytes :=
    fun j t d ht hd n hn => of_decide_eq_true (List.all_eq_true.1 hz n (DataW.weights_mem_each ht hd n hn))
  obtain ⟨x0, ⟨a0, _, k0⟩, g0⟩ := arg_one (.inl ⟨_, Tryd.underlying22⟩) op22 (hval 0 22 v0 rfl (by rw [e1]; rfl)) h0 (hwt 0 22 d0 rfl rfl)
  obtain ⟨x1, ⟨a1, ⟨_, b1⟩, k1⟩, g1⟩ := arg_one (.inr (.inr ⟨_, Tryd.underlying23⟩)) op23 (hval 1 23 v1 rfl (by rw [e1]; rfl)) h1 (hwt 1 23 d1 rfl rfl)
  obtain ⟨x2, ⟨a2, b2, _, k2⟩, g2⟩ := arg_agg (.inr ⟨_, _, Tryd.underlying25⟩) op25 (hval 2 25 v2 rfl (by rw [e1]; rfl)) h2 (hwt 2 25 d2 rfl rfl)
  obtain ⟨x3, ⟨a3, ⟨_, b3⟩, k3⟩, g3⟩ := arg_one (.inr (.inr ⟨_, Tryd.underlying23⟩)) op23 (hval 3 23 v3 rfl (by rw [e1]; rfl)) h3 (hwt 3 23 d3 rfl rfl)
  obtain ⟨x4, ⟨a4, ⟨_, b4⟩, k4⟩, g4⟩ := arg_one (.inr (.inr ⟨_, Tryd.underlying23⟩)) op23 (hval 4 23 v4 rfl (by rw [e1]; rfl)) h4 (hwt 4 23 d4 rfl rfl)
  simp only [List.cons.injEq, and_true] at k0 k1 k3 k4
  subst k0 k1 k2 k3 k4
  refine (law_callsG (XNodes_fun a0 a1 a2 a3 a4 (by omega) b2 (by omega) (by omega)) (of_laid hL) ?_).mono fun e W' ⟨he, hb⟩ => ⟨_, he, post_law rfl hW' rfl rfl rfl rfl Tryd.underlying4 hb Tryd.laidOut ?_⟩
  · rw [e1]; simp only [GL]; exact ⟨_, _, rfl, g0, _, _, rfl, g1, _, _, rfl, g2, _, _, rfl, g3, _, _, rfl, g4, rfl⟩
  · rw [Tryd.params3]; decide +kernel

theorem xmssNodes_f1 : (Rows.xmssNodesRow.inPlace == Tryd.prog.inPlace 3) = true := by kernel_rfl
theorem xmssNodes_f2 : (Rows.xmssNodesRow.unfollowed == Tryd.prog.unfollowed 3) = true := by kernel_rfl
theorem xmssNodes_f3 : (Rows.xmssNodesRow.recurses == Tryd.prog.recurses 3) = true := by kernel_rfl
theorem xmssNodes_f4 : (Rows.xmssNodesRow.named == Tryd.prog.varsNamed 3) = true := by kernel_rfl
theorem xmssNodes_f5 : Rows.xmssNodesRow.wf (OpenSpec.ofChange Rows.xmssNodesSpec) = true := by kernel_rfl
theorem xmssNodes_joined : joinedFacts Tryd.prog 3 Tryd.f3 Rows.xmssNodesSpec Rows.xmssNodesRow = true :=
  joined_cut fWords fLays fRefl fDoor xmssNodes_f5 Tryd.laidOut fRowed (by kernel_rfl) (by kernel_rfl) (by kernel_rfl) fStops (by kernel_rfl) fKnobs xmssNodes_f1 xmssNodes_f2 xmssNodes_f3 xmssNodes_f4
    (by kernel_rfl) (by kernel_rfl) (by kernel_rfl) (by kernel_rfl) (by kernel_rfl) (by kernel_rfl) (by kernel_rfl) (by kernel_rfl) (by kernel_rfl) fPlain (by kernel_rfl) (by kernel_rfl) fHeard (by kernel_rfl) rfl (by kernel_rfl) (by kernel_rfl) (by kernel_rfl) (by kernel_rfl)
theorem xmssNodes_named : Tryd.prog.funcNamed Rows.xmssNodesRow.func = some 3 := by kernel_rfl
theorem xmssNodes_row : Rows.XmssNodesSaid :=
  OpenClaim.holds_of_wide 3 Tryd.f3 rfl rfl rfl rfl rfl rfl rfl ⟨rfl, rfl, rfl, rfl, rfl⟩ rfl rfl rfl rfl rfl xmssNodes_named Tryd.func3 xmssNodes_joined
    (of_decide_eq_true (by kernel_rfl)) (by unfold Func.isWrapper; first | (rw [if_pos (by decide +kernel)]; kernel_rfl) | (rw [if_neg (by decide +kernel)]; exact ⟨rfl, rfl⟩))
    (fun os started H enc _ => xmssNodes_lifted os started H enc)

theorem xmssNodes_goes : false = Rows.xmssNodesRow.goesBy Tryd.prog := by kernel_rfl
theorem xmssNodes_wft : Rows.xmssNodesRow.wfByText (OpenSpec.ofChange Rows.xmssNodesSpec) = true := by kernel_rfl
theorem xmssNodes_holds : Rows.XmssNodesCardSaid :=
  Claim7.holds_tied_plain_at .later [] [.data, .data] true (true, "20426d89e038f2697c7132effd71a1a2c8b1afb32b8c091dc9a35aa83bbc1426") false
    xmssNodes_row (fun _ h => by cases h) xmssNodes_wft (fun _ h => by cases h) xmssNodes_row_tie rfl ⟨rfl, rfl⟩ fMain rfl
    (fun f fn hf hfn => by
      obtain rfl : f = 3 := Option.some.inj (xmssNodes_named.symm.trans hf) |>.symm
      obtain rfl : fn = Tryd.f3 := (Option.some.inj (Tryd.func3.symm.trans hfn)).symm
      exact ⟨fLooks, fun j t ht => by
        rw [Tryd.params3] at ht
        have hm : t ∈ [22, 23, 25, 23, 23] := by simpa using Array.mem_of_getElem? ht
        have hall : ([22, 23, 25, 23, 23].all fun u => !Tryd.prog.wantsStandIn u) = true := by kernel_rfl
        exact (show Tryd.prog.wantsStandIn t = false by simpa using List.all_eq_true.1 hall t hm)⟩)
    xmssNodes_goes
#print axioms xmssNodes_holds
end Go.Proofs.YtmpfooekljbhhaaDoor
