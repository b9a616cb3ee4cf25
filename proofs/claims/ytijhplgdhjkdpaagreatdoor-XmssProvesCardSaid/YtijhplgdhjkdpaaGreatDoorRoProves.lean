/- The law XmssProves: whether a signature proves a message, and its leaf. -/
import Derived.Test.YtijhplgdhjkdpaaGreatDoorIg
import Derived.Test.YtijhplgdhjkdpaaGreatDoorRf
set_option linter.all false
namespace Go.Proofs.YtijhplgdhjkdpaaGreatDoor
open Go.ChangeShapes Go.WideShapes Go.ChangeAt Go.RowKit Go.Lv

set_option maxRecDepth 100000 in
theorem xmssProves_lifted (os : Os) (started : os.Started) (H : Type) (enc : TypeId × Value → H) :
    ReturnsInHanded {} Tryz.checked os 8 .any (fun w args => (Rows.xmssProvesSpec.pre enc Tryz.prog Tryz.f8 [] false w args ∧ laidMetH Tryz.prog laidL w) ∧ sizedMet enc Tryz.prog Tryz.f8 (OpenSpec.ofChange Rows.xmssProvesSpec) false w args)
      (Rows.xmssProvesSpec.post enc Tryz.prog Tryz.f8 false true false false) := by
  refine returnsInHanded_of_change_and (C := Tryz.checked) (X := fun w _ => laidMetH Tryz.prog laidL w) (fun _ _ _ hh h => h.of_heap hh) Tryz.own started (by kernel_rfl) Tryz.func8
    (ChangeSpec.witness_shaped (enc := enc) (C := Tryz.checked) (os := os) (X := fun w _ => laidMetH Tryz.prog laidL w) false (World.doorLaid Tryz.prog 4000 os) #[.int .u32 0, .slice none 0 0, .slice none 0 0, .slice none 0 0] 8 rfl (World.shaped_of_RefB (by kernel_rfl) (by kernel_rfl)) (by kernel_rfl) (by kernel_rfl) (by kernel_rfl) (door_met os _)) ?_
  intro W base args ds gs before hval hW _ hz hL _
  have hW' := hW
  obtain ⟨p, q, hA, hV, rfl, hfz, hnd⟩ := hW
  rw [Tryz.params8] at hA
  obtain ⟨v0, v1, v2, v3, d0, d1, d2, d3, p0, p1, p2, p3, e1, rfl, rfl, h0, h1, h2, h3⟩ := trodAll_four hA
  obtain ⟨rfl, rfl⟩ := trodVars_none hV
  have hwt : ∀ (j : Nat) (t : TypeId) (d : DataW H), (Tryz.f8.params.toList ++ DataSpec.varTypes Tryz.checked.prog Rows.xmssProvesSpec.plain)[j]? = some t → ([d0, d1, d2, d3] ++ [])[j]? = some d → ∀ n ∈ d.weights Tryz.prog t, n ≤ reachBytes :=
    fun j t d ht hd n hn => of_decide_eq_true (List.all_eq_true.1 hz n (DataW.weights_mem_each ht hd n hn))
  obtain ⟨x0, ⟨a0, _, k0⟩, g0⟩ := arg_one (.inl ⟨_, Tryz.underlying22⟩) op22 (hval 0 22 v0 rfl (by rw [e1]; rfl)) h0 (hwt 0 22 d0 rfl rfl)
  obtain ⟨x1, ⟨a1, ⟨_, b1⟩, k1⟩, g1⟩ := arg_one (.inr (.inr ⟨_, Tryz.underlying23⟩)) op23 (hval 1 23 v1 rfl (by rw [e1]; rfl)) h1 (hwt 1 23 d1 rfl rfl)
  obtain ⟨x2, ⟨a2, ⟨_, b2⟩, k2⟩, g2⟩ := arg_one (.inr (.inr ⟨_, Tryz.underlying23⟩)) op23 (hval 2 23 v2 rfl (by rw [e1]; rfl)) h2 (hwt 2 23 d2 rfl rfl)
  obtain ⟨x3, ⟨a3, ⟨_, b3⟩, k3⟩, g3⟩ := arg_one (.inr (.inr ⟨_, Tryz.underlying23⟩)) op23 (hval 3 23 v3 rfl (by rw [e1]; rfl)) h3 (hwt 3 23 d3 rfl rfl)
  simp only [List.cons.injEq, and_true] at k0 k1 k2 k3
  subst k0 k1 k2 k3
  refine (law_callsG (XProves_fun a0 a1 a2 a3 (by omega) (by omega) (by omega)) (of_laid hL) ?_).mono fun e W' ⟨he, hb⟩ => ⟨_, he, post_law rfl hW' rfl rfl rfl rfl Tryz.underlying4 hb Tryz.laidOut ?_⟩
  · rw [e1]; simp only [GL]; exact ⟨_, _, rfl, g0, _, _, rfl, g1, _, _, rfl, g2, _, _, rfl, g3, rfl⟩
  · rw [Tryz.params8]; decide +kernel

theorem xmssProves_f1 : (Rows.xmssProvesRow.inPlace == Tryz.prog.inPlace 8) = true := by kernel_rfl
theorem xmssProves_f2 : (Rows.xmssProvesRow.unfollowed == Tryz.prog.unfollowed 8) = true := by kernel_rfl
theorem xmssProves_f3 : (Rows.xmssProvesRow.recurses == Tryz.prog.recurses 8) = true := by kernel_rfl
theorem xmssProves_f4 : (Rows.xmssProvesRow.named == Tryz.prog.varsNamed 8) = true := by kernel_rfl
theorem xmssProves_f5 : Rows.xmssProvesRow.wf (OpenSpec.ofChange Rows.xmssProvesSpec) = true := by kernel_rfl
theorem xmssProves_joined : joinedFacts Tryz.prog 8 Tryz.f8 Rows.xmssProvesSpec Rows.xmssProvesRow = true :=
  joined_cut fWords fLays fRefl fDoor xmssProves_f5 Tryz.laidOut fRowed (by kernel_rfl) (by kernel_rfl) (by kernel_rfl) fStops (by kernel_rfl) fKnobs xmssProves_f1 xmssProves_f2 xmssProves_f3 xmssProves_f4
    (by kernel_rfl) (by kernel_rfl) (by kernel_rfl) (by kernel_rfl) (by kernel_rfl) (by kernel_rfl) (by kernel_rfl) (by kernel_rfl) (by kernel_rfl) fPlain (by kernel_rfl) (by kernel_rfl) fHeard (by kernel_rfl) rfl (by kernel_rfl) (by kernel_rfl) (by kernel_rfl) (by kernel_rfl)
theorem xmssProves_named : Tryz.prog.funcNamed Rows.xmssProvesRow.func = some 8 := by kernel_rfl
theorem xmssProves_row : Rows.XmssProvesSaid :=
  OpenClaim.holds_of_wide 8 Tryz.f8 rfl rfl rfl rfl rfl rfl rfl ⟨rfl, rfl, rfl, rfl, rfl⟩ rfl rfl rfl rfl rfl xmssProves_named Tryz.func8 xmssProves_joined
    (of_decide_eq_true (by kernel_rfl)) (by unfold Func.isWrapper; first | (rw [if_pos (by decide +kernel)]; kernel_rfl) | (rw [if_neg (by decide +kernel)]; exact ⟨rfl, rfl⟩))
    (fun os started H enc _ => xmssProves_lifted os started H enc)

theorem xmssProves_goes : false = Rows.xmssProvesRow.goesBy Tryz.prog := by kernel_rfl
theorem xmssProves_wft : Rows.xmssProvesRow.wfByText (OpenSpec.ofChange Rows.xmssProvesSpec) = true := by kernel_rfl
theorem xmssProves_holds : Rows.XmssProvesCardSaid :=
  Claim7.holds_tied_plain_at .later [] [.data, .data] true (true, "10a09baddbfcce9bd8a70ca77ac331f43d72abb69a0ea6a57f5a7428d7e74546") false
    xmssProves_row (fun _ h => by cases h) xmssProves_wft (fun _ h => by cases h) xmssProves_row_tie rfl ⟨rfl, rfl⟩ fMain rfl
    (fun f fn hf hfn => by
      obtain rfl : f = 8 := Option.some.inj (xmssProves_named.symm.trans hf) |>.symm
      obtain rfl : fn = Tryz.f8 := (Option.some.inj (Tryz.func8.symm.trans hfn)).symm
      exact ⟨fLooks, fun j t ht => by
        rw [Tryz.params8] at ht
        have hm : t ∈ [22, 23, 23, 23] := by simpa using Array.mem_of_getElem? ht
        have hall : ([22, 23, 23, 23].all fun u => !Tryz.prog.wantsStandIn u) = true := by kernel_rfl
        exact (show Tryz.prog.wantsStandIn t = false by simpa using List.all_eq_true.1 hall t hm)⟩)
    xmssProves_goes
#print axioms xmssProves_holds
end Go.Proofs.YtijhplgdhjkdpaaGreatDoor
