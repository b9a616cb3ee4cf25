/- The law XmssLtrees: any texts' L-tree, below any leaf, is what the reference says. -/
import Derived.Test.YtmpfooekljbhhaaDoorHi
import Derived.Test.YtmpfooekljbhhaaDoorRf
set_option linter.all false
namespace Go.Proofs.YtmpfooekljbhhaaDoor
open Go.ChangeShapes Go.WideShapes Go.ChangeAt Go.RowKit Go.Lv

set_option maxRecDepth 100000 in
theorem xmssLtrees_lifted (os : Os) (started : os.Started) (H : Type) (enc : TypeId × Value → H) :
    ReturnsInHanded {} Tryd.checked os 9 .any (fun w args => (Rows.xmssLtreesSpec.pre enc Tryd.prog Tryd.f9 [] false w args ∧ laidMetH Tryd.prog laidL w) ∧ sizedMet enc Tryd.prog Tryd.f9 (OpenSpec.ofChange Rows.xmssLtreesSpec) false w args)
      (Rows.xmssLtreesSpec.post enc Tryd.prog Tryd.f9 false true false false) := by
  refine returnsInHanded_of_change_and (C := Tryd.checked) (X := fun w _ => laidMetH Tryd.prog laidL w) (fun _ _ _ hh h => h.of_heap hh) Tryd.own started (by kernel_rfl) Tryd.func9
    (ChangeSpec.witness_shaped (enc := enc) (C := Tryd.checked) (os := os) (X := fun w _ => laidMetH Tryd.prog laidL w) false (World.doorLaid Tryd.prog 4000 os) #[.int .u32 0, .slice none 0 0, .slice none 0 0, .int .u32 0] 8 rfl (World.shaped_of_RefB (by kernel_rfl) (by kernel_rfl)) (by kernel_rfl) (by kernel_rfl) (by kernel_rfl) (door_met os _)) ?_
  intro W base args ds gs before hval hW _ hz hL _
  have hW' := hW
  obtain ⟨p, q, hA, hV, rfl, hfz, hnd⟩ := hW
  rw [Tryd.params9] at hA
  obtain ⟨v0, v1, v2, v3, d0, d1, d2, d3, p0, p1, p2, p3, e1, rfl, rfl, h0, h1, h2, h3⟩ := trodAll_four hA
  obtain ⟨rfl, rfl⟩ := trodVars_none hV
  have hwt : ∀ (j : Nat) (t : TypeId) (d : DataW H), (Tryd.f9.params.toList ++ DataSpec.varTypes Tryd.checked.prog Rows.xmssLtreesSpec.plain)[j]? = some t → ([d0, d1, d2, d3] ++ [])[j]? = some d → ∀ n ∈ d.weights Tryd.prog t, n ≤ reachBytes :=
    fun j t d ht hd n hn => of_decide_eq_true (List.all_eq_true.1 hz n (DataW.weights_mem_each ht hd n hn))
  obtain ⟨x0, ⟨a0, _, k0⟩, g0⟩ := arg_one (.inl ⟨_, Tryd.underlying22⟩) op22 (hval 0 22 v0 rfl (by rw [e1]; rfl)) h0 (hwt 0 22 d0 rfl rfl)
  obtain ⟨x1, ⟨a1, ⟨_, b1⟩, k1⟩, g1⟩ := arg_one (.inr (.inr ⟨_, Tryd.underlying23⟩)) op23 (hval 1 23 v1 rfl (by rw [e1]; rfl)) h1 (hwt 1 23 d1 rfl rfl)
  obtain ⟨x2, ⟨a2, ⟨_, b2⟩, k2⟩, g2⟩ := arg_one (.inr (.inr ⟨_, Tryd.underlying23⟩)) op23 (hval 2 23 v2 rfl (by rw [e1]; rfl)) h2 (hwt 2 23 d2 rfl rfl)
  obtain ⟨x3, ⟨a3, _, k3⟩, g3⟩ := arg_one (.inl ⟨_, Tryd.underlying22⟩) op22 (hval 3 22 v3 rfl (by rw [e1]; rfl)) h3 (hwt 3 22 d3 rfl rfl)
  simp only [List.cons.injEq, and_true] at k0 k1 k2 k3
  subst k0 k1 k2 k3
  refine (law_callsG (XLtrees_fun a0 a1 a2 a3 (by omega) (by omega)) (of_laid hL) ?_).mono fun e W' ⟨he, hb⟩ => ⟨_, he, post_law rfl hW' rfl rfl rfl rfl Tryd.underlying4 hb Tryd.laidOut ?_⟩
  · rw [e1]; simp only [GL]; exact ⟨_, _, rfl, g0, _, _, rfl, g1, _, _, rfl, g2, _, _, rfl, g3, rfl⟩
  · rw [Tryd.params9]; decide +kernel

theorem xmssLtrees_f1 : (Rows.xmssLtreesRow.inPlace == Tryd.prog.inPlace 9) = true := by kernel_rfl
theorem xmssLtrees_f2 : (Rows.xmssLtreesRow.unfollowed == Tryd.prog.unfollowed 9) = true := by kernel_rfl
theorem xmssLtrees_f3 : (Rows.xmssLtreesRow.recurses == Tryd.prog.recurses 9) = true := by kernel_rfl
theorem xmssLtrees_f4 : (Rows.xmssLtreesRow.named == Tryd.prog.varsNamed 9) = true := by kernel_rfl
theorem xmssLtrees_f5 : Rows.xmssLtreesRow.wf (OpenSpec.ofChange Rows.xmssLtreesSpec) = true := by kernel_rfl
theorem xmssLtrees_joined : joinedFacts Tryd.prog 9 Tryd.f9 Rows.xmssLtreesSpec Rows.xmssLtreesRow = true :=
  joined_cut fWords fLays fRefl fDoor xmssLtrees_f5 Tryd.laidOut fRowed (by kernel_rfl) (by kernel_rfl) (by kernel_rfl) fStops (by kernel_rfl) fKnobs xmssLtrees_f1 xmssLtrees_f2 xmssLtrees_f3 xmssLtrees_f4
    (by kernel_rfl) (by kernel_rfl) (by kernel_rfl) (by kernel_rfl) (by kernel_rfl) (by kernel_rfl) (by kernel_rfl) (by kernel_rfl) (by kernel_rfl) fPlain (by kernel_rfl) (by kernel_rfl) fHeard (by kernel_rfl) rfl (by kernel_rfl) (by kernel_rfl) (by kernel_rfl) (by kernel_rfl)
theorem xmssLtrees_named : Tryd.prog.funcNamed Rows.xmssLtreesRow.func = some 9 := by kernel_rfl
theorem xmssLtrees_row : Rows.XmssLtreesSaid :=
  OpenClaim.holds_of_wide 9 Tryd.f9 rfl rfl rfl rfl rfl rfl rfl ⟨rfl, rfl, rfl, rfl, rfl⟩ rfl rfl rfl rfl rfl xmssLtrees_named Tryd.func9 xmssLtrees_joined
    (of_decide_eq_true (by kernel_rfl)) (by unfold Func.isWrapper; first | (rw [if_pos (by decide +kernel)]; kernel_rfl) | (rw [if_neg (by decide +kernel)]; exact ⟨rfl, rfl⟩))
    (fun os started H enc _ => xmssLtrees_lifted os started H enc)

theorem xmssLtrees_goes : false = Rows.xmssLtreesRow.goesBy Tryd.prog := by kernel_rfl
theorem xmssLtrees_wft : Rows.xmssLtreesRow.wfByText (OpenSpec.ofChange Rows.xmssLtreesSpec) = true := by kernel_rfl
theorem xmssLtrees_holds : Rows.XmssLtreesCardSaid :=
  Claim7.holds_tied_plain_at .later [] [.data, .data] true (true, "20426d89e038f2697c7132effd71a1a2c8b1afb32b8c091dc9a35aa83bbc1426") false
    xmssLtrees_row (fun _ h => by cases h) xmssLtrees_wft (fun _ h => by cases h) xmssLtrees_row_tie rfl ⟨rfl, rfl⟩ fMain rfl
    (fun f fn hf hfn => by
      obtain rfl : f = 9 := Option.some.inj (xmssLtrees_named.symm.trans hf) |>.symm
      obtain rfl : fn = Tryd.f9 := (Option.some.inj (Tryd.func9.symm.trans hfn)).symm
      exact ⟨fLooks, fun j t ht => by
        rw [Tryd.params9] at ht
        have hm : t ∈ [22, 23, 23, 22] := by simpa using Array.mem_of_getElem? ht
        have hall : ([22, 23, 23, 22].all fun u => !Tryd.prog.wantsStandIn u) = true := by kernel_rfl
        exact (show Tryd.prog.wantsStandIn t = false by simpa using List.all_eq_true.1 hall t hm)⟩)
    xmssLtrees_goes
#print axioms xmssLtrees_holds
end Go.Proofs.YtmpfooekljbhhaaDoor
