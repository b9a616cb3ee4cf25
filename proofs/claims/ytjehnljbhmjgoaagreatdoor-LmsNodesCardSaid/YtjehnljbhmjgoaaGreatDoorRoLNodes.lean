/- Leaves of LMS and nodes above two: the code answers as the document. -/
import Derived.Test.YtjehnljbhmjgoaaGreatDoorGP
import Derived.Test.YtjehnljbhmjgoaaGreatDoorRk
import Derived.Test.YtjehnljbhmjgoaaGreatDoorRf
set_option linter.all false
namespace Go.Proofs.YtjehnljbhmjgoaaGreatDoor
open Go.ChangeShapes Go.WideShapes Go.ChangeAt Go.RowKit Go.Lv
set_option maxRecDepth 100000 in
theorem lmsNodes_lifted (os : Os) (started : os.Started) (H : Type) (enc : TypeId × Value → H) :
    ReturnsInHanded {} Tryz.checked os 13 .any (fun w args => (Rows.lmsNodesSpec.pre enc Tryz.prog Tryz.f13 [] false w args ∧ laidMetH Tryz.prog laidL w) ∧ sizedMet enc Tryz.prog Tryz.f13 (OpenSpec.ofChange Rows.lmsNodesSpec) false w args)
      (Rows.lmsNodesSpec.post enc Tryz.prog Tryz.f13 false true false false) := by
  refine returnsInHanded_of_change_and (C := Tryz.checked) (X := fun w _ => laidMetH Tryz.prog laidL w) (fun _ _ _ hh h => h.of_heap hh) Tryz.own started (by kernel_rfl) Tryz.func13
    (ChangeSpec.witness_shaped (enc := enc) (C := Tryz.checked) (os := os) (X := fun w _ => laidMetH Tryz.prog laidL w) false (World.doorLaid Tryz.prog 4000 os) #[.agg #[.int .u32 0, .bool false, .int .i64 0, .int .i64 0, .int .u32 0, .bool false, .int .i64 0, .int .i64 0, .int .i64 0, .int .i64 0, .int .u8 0, .int .u8 0, .int .u8 0, .int .u8 0, .int .u8 0, .int .u8 0, .int .u8 0, .int .u8 0, .int .u8 0, .int .u8 0, .int .u8 0, .int .u8 0, .int .u8 0, .int .u8 0, .int .u8 0, .int .u8 0, .slice none 0 0], .int .u32 0, .slice none 0 0, .slice none 0 0] 8 rfl (World.shaped_of_RefB (by kernel_rfl) (by kernel_rfl)) (by kernel_rfl) (by kernel_rfl) (by kernel_rfl) (door_met os _)) ?_
  intro W base args ds gs before hval hW _ hz hL _
  have hW' := hW
  obtain ⟨p, q, hA, hV, rfl, hfz, hnd⟩ := hW
  rw [Tryz.params13] at hA
  obtain ⟨v0, v1, v2, v3, d0, d1, d2, d3, p0, p1, p2, p3, e1, rfl, rfl, h0, h1, h2, h3⟩ := trodAll_four hA
  obtain ⟨rfl, rfl⟩ := trodVars_none hV
  have hwt : ∀ (j : Nat) (t : TypeId) (d : DataW H), (Tryz.f13.params.toList ++ DataSpec.varTypes Tryz.checked.prog Rows.lmsNodesSpec.plain)[j]? = some t → ([d0, d1, d2, d3] ++ [])[j]? = some d → ∀ n ∈ d.weights Tryz.prog t, n ≤ reachBytes :=
    fun j t d ht hd n hn => of_decide_eq_true (List.all_eq_true.1 hz n (DataW.weights_mem_each ht hd n hn))
  obtain ⟨x0, ⟨a0, b0, k0⟩, g0⟩ := arg_agg (.inl ⟨_, Tryz.underlying65⟩) op65 (hval 0 65 v0 rfl (by rw [e1]; rfl)) h0 (hwt 0 65 d0 rfl rfl)
  obtain ⟨x1, ⟨a1, _, k1⟩, g1⟩ := arg_one (.inl ⟨_, Tryz.underlying22⟩) op22 (hval 1 22 v1 rfl (by rw [e1]; rfl)) h1 (hwt 1 22 d1 rfl rfl)
  obtain ⟨x2, ⟨a2, ⟨_, b2⟩, k2⟩, g2⟩ := arg_one (.inr (.inr ⟨_, Tryz.underlying23⟩)) op23 (hval 2 23 v2 rfl (by rw [e1]; rfl)) h2 (hwt 2 23 d2 rfl rfl)
  obtain ⟨x3, ⟨a3, ⟨_, b3⟩, k3⟩, g3⟩ := arg_one (.inr (.inr ⟨_, Tryz.underlying23⟩)) op23 (hval 3 23 v3 rfl (by rw [e1]; rfl)) h3 (hwt 3 23 d3 rfl rfl)
  simp only [List.cons.injEq, and_true] at k1 k2 k3
  subst k0 k1 k2 k3
  refine (law_callsG (LmNodes_fun a0 a1 a2 a3 b0.1 b0.2 (by omega) (by omega)) (of_laid hL) ?_).mono fun e W' ⟨he, hb⟩ => ⟨_, he, post_law rfl hW' rfl rfl rfl rfl Tryz.underlying4 hb Tryz.laidOut ?_⟩
  · rw [e1]; simp only [GL]; exact ⟨_, _, rfl, g0, _, _, rfl, g1, _, _, rfl, g2, _, _, rfl, g3, rfl⟩
  · rw [Tryz.params13]; decide +kernel
theorem lmsNodes_f1 : (Rows.lmsNodesRow.inPlace == Tryz.prog.inPlace 13) = true := by kernel_rfl
theorem lmsNodes_f2 : (Rows.lmsNodesRow.unfollowed == Tryz.prog.unfollowed 13) = true := by kernel_rfl
theorem lmsNodes_f3 : (Rows.lmsNodesRow.recurses == Tryz.prog.recurses 13) = true := by kernel_rfl
theorem lmsNodes_f4 : (Rows.lmsNodesRow.named == Tryz.prog.varsNamed 13) = true := by kernel_rfl
theorem lmsNodes_f5 : Rows.lmsNodesRow.wf (OpenSpec.ofChange Rows.lmsNodesSpec) = true := by kernel_rfl
theorem lmsNodes_joined : joinedFacts Tryz.prog 13 Tryz.f13 Rows.lmsNodesSpec Rows.lmsNodesRow = true :=
  joined_cut fWords fLays fRefl fDoor lmsNodes_f5 Tryz.laidOut fRowed (by kernel_rfl) (by kernel_rfl) (by kernel_rfl) fStops (by kernel_rfl) fKnobs lmsNodes_f1 lmsNodes_f2 lmsNodes_f3 lmsNodes_f4
    (by kernel_rfl) (by kernel_rfl) (by kernel_rfl) (by kernel_rfl) (by kernel_rfl) (by kernel_rfl) (by kernel_rfl) (by kernel_rfl) (by kernel_rfl) fPlain (by kernel_rfl) (by kernel_rfl) fHeard (by kernel_rfl) rfl (by kernel_rfl) (by kernel_rfl) (by kernel_rfl) (by kernel_rfl)
theorem lmsNodes_named : Tryz.prog.funcNamed Rows.lmsNodesRow.func = some 13 := by kernel_rfl
theorem lmsNodes_row : Rows.LmsNodesSaid :=
  OpenClaim.holds_of_wide 13 Tryz.f13 rfl rfl rfl rfl rfl rfl rfl ⟨rfl, rfl, rfl, rfl, rfl⟩ rfl rfl rfl rfl rfl lmsNodes_named Tryz.func13 lmsNodes_joined
    (of_decide_eq_true (by kernel_rfl)) (by unfold Func.isWrapper; first | (rw [if_pos (by decide +kernel)]; kernel_rfl) | (rw [if_neg (by decide +kernel)]; exact ⟨rfl, rfl⟩))
    (fun os started H enc _ => lmsNodes_lifted os started H enc)
theorem lmsNodes_goes : false = Rows.lmsNodesRow.goesBy Tryz.prog := by kernel_rfl
theorem lmsNodes_wft : Rows.lmsNodesRow.wfByText (OpenSpec.ofChange Rows.lmsNodesSpec) = true := by kernel_rfl
theorem lmsNodes_holds : Rows.LmsNodesCardSaid :=
  Claim7.holds_tied_plain_at .later [] [.data, .data] true (true, "06509fc3e8edd468d53aaf23e62f6cca9f36ccdf5675f24a8db49316dc45e191") false
    lmsNodes_row (fun _ h => by cases h) lmsNodes_wft (fun _ h => by cases h) lmsNodes_row_tie rfl ⟨rfl, rfl⟩ fMain rfl
    (fun f fn hf hfn => by
      obtain rfl : f = 13 := Option.some.inj (lmsNodes_named.symm.trans hf) |>.symm
      obtain rfl : fn = Tryz.f13 := (Option.some.inj (Tryz.func13.symm.trans hfn)).symm
      exact ⟨fLooks, fun j t ht => by
        rw [Tryz.params13] at ht
        have hm : t ∈ [65, 22, 23, 23] := by simpa using Array.mem_of_getElem? ht
        have hall : ([65, 22, 23, 23].all fun u => !Tryz.prog.wantsStandIn u) = true := by kernel_rfl
        exact (show Tryz.prog.wantsStandIn t = false by simpa using List.all_eq_true.1 hall t hm)⟩)
    lmsNodes_goes
#print axioms lmsNodes_holds
end Go.Proofs.YtjehnljbhmjgoaaGreatDoor
