/- The law WotsPublic: the ends of all chains of any secret are what the reference says. -/
import Derived.Test.YtmpfooekljbhhaaDoorFo
import Derived.Test.YtmpfooekljbhhaaDoorRl
import Derived.Test.YtmpfooekljbhhaaDoorRf
set_option linter.all false
namespace Go.Proofs.YtmpfooekljbhhaaDoor
open Go.ChangeShapes Go.WideShapes Go.ChangeAt Go.RowKit Go.Lv

set_option maxRecDepth 100000 in
theorem wotsPublic_lifted (os : Os) (started : os.Started) (H : Type) (enc : TypeId × Value → H) :
    ReturnsInHanded {} Tryd.checked os 11 .any (fun w args => (Rows.wotsPublicSpec.pre enc Tryd.prog Tryd.f11 [] false w args ∧ laidMetH Tryd.prog laidL w) ∧ sizedMet enc Tryd.prog Tryd.f11 (OpenSpec.ofChange Rows.wotsPublicSpec) false w args)
      (Rows.wotsPublicSpec.post enc Tryd.prog Tryd.f11 false true false false) := by
  refine returnsInHanded_of_change_and (C := Tryd.checked) (X := fun w _ => laidMetH Tryd.prog laidL w) (fun _ _ _ hh h => h.of_heap hh) Tryd.own started (by kernel_rfl) Tryd.func11
    (ChangeSpec.witness_shaped (enc := enc) (C := Tryd.checked) (os := os) (X := fun w _ => laidMetH Tryd.prog laidL w) false (World.doorLaid Tryd.prog 4000 os) #[.agg #[.int .u32 0, .bool false, .int .i64 0, .int .i64 0, .int .i64 0], .slice none 0 0, .slice none 0 0, .agg #[.int .u32 0, .int .u32 0, .int .u32 0, .int .u32 0, .int .u32 0, .int .u32 0, .int .u32 0, .int .u32 0]] 8 rfl (World.shaped_of_RefB (by kernel_rfl) (by kernel_rfl)) (by kernel_rfl) (by kernel_rfl) (by kernel_rfl) (door_met os _)) ?_
  intro W base args ds gs before hval hW _ hz hL _
  have hW' := hW
  obtain ⟨p, q, hA, hV, rfl, hfz, hnd⟩ := hW
  rw [Tryd.params11] at hA
  obtain ⟨v0, v1, v2, v3, d0, d1, d2, d3, p0, p1, p2, p3, e1, rfl, rfl, h0, h1, h2, h3⟩ := trodAll_four hA
  obtain ⟨rfl, rfl⟩ := trodVars_none hV
  have hwt : ∀ (j : Nat) (t : TypeId) (d : DataW H), (Tryd.f11.params.toList ++ DataSpec.varTypes Tryd.checked.prog Rows.wotsPublicSpec.plain)[j]? = some t → ([d0, d1, d2, d3] ++ [])[j]? = some d → ∀ n ∈ d.weights Tryd.prog t, n ≤ reachBytes :=
    fun j t d ht hd n hn => of_decide_eq_true (List.all_eq_true.1 hz n (DataW.weights_mem_each ht hd n hn))
  obtain ⟨x0, ⟨a0, b0, k0⟩, g0⟩ := arg_agg (.inl ⟨_, Tryd.underlying27⟩) op27 (hval 0 27 v0 rfl (by rw [e1]; rfl)) h0 (hwt 0 27 d0 rfl rfl)
  obtain ⟨x1, ⟨a1, ⟨_, b1⟩, k1⟩, g1⟩ := arg_one (.inr (.inr ⟨_, Tryd.underlying23⟩)) op23 (hval 1 23 v1 rfl (by rw [e1]; rfl)) h1 (hwt 1 23 d1 rfl rfl)
  obtain ⟨x2, ⟨a2, ⟨_, b2⟩, k2⟩, g2⟩ := arg_one (.inr (.inr ⟨_, Tryd.underlying23⟩)) op23 (hval 2 23 v2 rfl (by rw [e1]; rfl)) h2 (hwt 2 23 d2 rfl rfl)
  obtain ⟨x3, ⟨a3, b3, _, k3⟩, g3⟩ := arg_agg (.inr ⟨_, _, Tryd.underlying25⟩) op25 (hval 3 25 v3 rfl (by rw [e1]; rfl)) h3 (hwt 3 25 d3 rfl rfl)
  simp only [List.cons.injEq, and_true] at k1 k2
  subst k0 k1 k2 k3
  refine (law_callsG (WLPublic_fun a0 a1 a2 a3 b0 (by omega) (by omega) b3) (of_laid hL) ?_).mono fun e W' ⟨he, hb⟩ => ⟨_, he, post_law rfl hW' rfl rfl rfl rfl Tryd.underlying4 hb Tryd.laidOut ?_⟩
  · rw [e1]; simp only [GL]; exact ⟨_, _, rfl, g0, _, _, rfl, g1, _, _, rfl, g2, _, _, rfl, g3, rfl⟩
  · rw [Tryd.params11]; decide +kernel

theorem wotsPublic_f1 : (Rows.wotsPublicRow.inPlace == Tryd.prog.inPlace 11) = true := by kernel_rfl
theorem wotsPublic_f2 : (Rows.wotsPublicRow.unfollowed == Tryd.prog.unfollowed 11) = true := by kernel_rfl
theorem wotsPublic_f3 : (Rows.wotsPublicRow.recurses == Tryd.prog.recurses 11) = true := by kernel_rfl
theorem wotsPublic_f4 : (Rows.wotsPublicRow.named == Tryd.prog.varsNamed 11) = true := by kernel_rfl
theorem wotsPublic_f5 : Rows.wotsPublicRow.wf (OpenSpec.ofChange Rows.wotsPublicSpec) = true := by kernel_rfl
theorem wotsPublic_joined : joinedFacts Tryd.prog 11 Tryd.f11 Rows.wotsPublicSpec Rows.wotsPublicRow = true :=
  joined_cut fWords fLays fRefl fDoor wotsPublic_f5 Tryd.laidOut fRowed (by kernel_rfl) (by kernel_rfl) (by kernel_rfl) fStops (by kernel_rfl) fKnobs wotsPublic_f1 wotsPublic_f2 wotsPublic_f3 wotsPublic_f4
    (by kernel_rfl) (by kernel_rfl) (by kernel_rfl) (by kernel_rfl) (by kernel_rfl) (by kernel_rfl) (by kernel_rfl) (by kernel_rfl) (by kernel_rfl) fPlain (by kernel_rfl) (by kernel_rfl) fHeard (by kernel_rfl) rfl (by kernel_rfl) (by kernel_rfl) (by kernel_rfl) (by kernel_rfl)
theorem wotsPublic_named : Tryd.prog.funcNamed Rows.wotsPublicRow.func = some 11 := by kernel_rfl
theorem wotsPublic_row : Rows.WotsPublicSaid :=
  OpenClaim.holds_of_wide 11 Tryd.f11 rfl rfl rfl rfl rfl rfl rfl ⟨rfl, rfl, rfl, rfl, rfl⟩ rfl rfl rfl rfl rfl wotsPublic_named Tryd.func11 wotsPublic_joined
    (of_decide_eq_true (by kernel_rfl)) (by unfold Func.isWrapper; first | (rw [if_pos (by decide +kernel)]; kernel_rfl) | (rw [if_neg (by decide +kernel)]; exact ⟨rfl, rfl⟩))
    (fun os started H enc _ => wotsPublic_lifted os started H enc)

theorem wotsPublic_goes : false = Rows.wotsPublicRow.goesBy Tryd.prog := by kernel_rfl
theorem wotsPublic_wft : Rows.wotsPublicRow.wfByText (OpenSpec.ofChange Rows.wotsPublicSpec) = true := by kernel_rfl
theorem wotsPublic_holds : Rows.WotsPublicCardSaid :=
  Claim7.holds_tied_plain_at .later [] [.data, .data] true (true, "20426d89e038f2697c7132effd71a1a2c8b1afb32b8c091dc9a35aa83bbc1426") false
    wotsPublic_row (fun _ h => by cases h) wotsPublic_wft (fun _ h => by cases h) wotsPublic_row_tie rfl ⟨rfl, rfl⟩ fMain rfl
    (fun f fn hf hfn => by
      obtain rfl : f = 11 := Option.some.inj (wotsPublic_named.symm.trans hf) |>.symm
      obtain rfl : fn = Tryd.f11 := (Option.some.inj (Tryd.func11.symm.trans hfn)).symm
      exact ⟨fLooks, fun j t ht => by
        rw [Tryd.params11] at ht
        have hm : t ∈ [27, 23, 23, 25] := by simpa using Array.mem_of_getElem? ht
        have hall : ([27, 23, 23, 25].all fun u => !Tryd.prog.wantsStandIn u) = true := by kernel_rfl
        exact (show Tryd.prog.wantsStandIn t = false by simpa using List.all_eq_true.1 hall t hm)⟩)
    wotsPublic_goes
#print axioms wotsPublic_holds
end Go.Proofs.YtmpfooekljbhhaaDoor
