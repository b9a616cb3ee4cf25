/- The law WotsVerifies: a signature's chains end where the public key's do. -/
import Derived.Test.YtmpfooekljbhhaaDoorFp
import Derived.Test.YtmpfooekljbhhaaDoorRl
import Derived.Test.YtmpfooekljbhhaaDoorRf
set_option linter.all false
namespace Go.Proofs.YtmpfooekljbhhaaDoor
open Go.ChangeShapes Go.WideShapes Go.ChangeAt Go.RowKit Go.Lv

set_option maxRecDepth 100000 in
theorem wotsVerifies_lifted (os : Os) (started : os.Started) (H : Type) (enc : TypeId × Value → H) :
    ReturnsInHanded {} Tryd.checked os 13 .any (fun w args => (Rows.wotsVerifiesSpec.pre enc Tryd.prog Tryd.f13 [] false w args ∧ laidMetH Tryd.prog laidL w) ∧ sizedMet enc Tryd.prog Tryd.f13 (OpenSpec.ofChange Rows.wotsVerifiesSpec) false w args)
      (Rows.wotsVerifiesSpec.post enc Tryd.prog Tryd.f13 false true false false) := by
  refine returnsInHanded_of_change_and (C := Tryd.checked) (X := fun w _ => laidMetH Tryd.prog laidL w) (fun _ _ _ hh h => h.of_heap hh) Tryd.own started (by kernel_rfl) Tryd.func13
    (ChangeSpec.witness_shaped (enc := enc) (C := Tryd.checked) (os := os) (X := fun w _ => laidMetH Tryd.prog laidL w) false (World.doorLaid Tryd.prog 4000 os) #[.agg #[.int .u32 0, .bool false, .int .i64 0, .int .i64 0, .int .i64 0], .slice none 0 0, .slice none 0 0, .slice none 0 0, .agg #[.int .u32 0, .int .u32 0, .int .u32 0, .int .u32 0, .int .u32 0, .int .u32 0, .int .u32 0, .int .u32 0]] 8 rfl (World.shaped_of_RefB (by kernel_rfl) (by kernel_rfl)) (by kernel_rfl) (by kernel_rfl) (by kernel_rfl) (door_met os _)) ?_
  intro W base args ds gs before hval hW _ hz hL _
  have hW' := hW
  obtain ⟨p, q, hA, hV, rfl, hfz, hnd⟩ := hW
  rw [Tryd.params13] at hA
  obtain ⟨v0, v1, v2, v3, v4, d0, d1, d2, d3, d4, p0, p1, p2, p3, p4, e1, rfl, rfl, h0, h1, h2, h3, h4⟩ := trodAll_five hA
  obtain ⟨rfl, rfl⟩ := trodVars_none hV
  have hwt : ∀ (j : Nat) (t : TypeId) (d : DataW H), (Tryd.f13.params.toList ++ DataSpec.varTypes Tryd.checked.prog Rows.wotsVerifiesSpec.plain)[j]? = some t → ([d0, d1, d2, d3, d4] ++ [])[j]? = some d → ∀ n ∈ d.weights Tryd.prog t, n ≤ reachBytes :=
    fun j t d ht hd n hn => of_decide_eq_true (List.all_eq_true.1 hz n (DataW.weights_mem_each ht hd n hn))
  obtain ⟨x0, ⟨a0, b0, k0⟩, g0⟩ := arg_agg (.inl ⟨_, Tryd.underlying27⟩) op27 (hval 0 27 v0 rfl (by rw [e1]; rfl)) h0 (hwt 0 27 d0 rfl rfl)
  obtain ⟨x1, ⟨a1, ⟨_, b1⟩, k1⟩, g1⟩ := arg_one (.inr (.inr ⟨_, Tryd.underlying23⟩)) op23 (hval 1 23 v1 rfl (by rw [e1]; rfl)) h1 (hwt 1 23 d1 rfl rfl)
  obtain ⟨x2, ⟨a2, ⟨_, b2⟩, k2⟩, g2⟩ := arg_one (.inr (.inr ⟨_, Tryd.underlying23⟩)) op23 (hval 2 23 v2 rfl (by rw [e1]; rfl)) h2 (hwt 2 23 d2 rfl rfl)
  obtain ⟨x3, ⟨a3, ⟨_, b3⟩, k3⟩, g3⟩ := arg_one (.inr (.inr ⟨_, Tryd.underlying23⟩)) op23 (hval 3 23 v3 rfl (by rw [e1]; rfl)) h3 (hwt 3 23 d3 rfl rfl)
  obtain ⟨x4, ⟨a4, b4, _, k4⟩, g4⟩ := arg_agg (.inr ⟨_, _, Tryd.underlying25⟩) op25 (hval 4 25 v4 rfl (by rw [e1]; rfl)) h4 (hwt 4 25 d4 rfl rfl)
  simp only [List.cons.injEq, and_true] at k1 k2 k3
  subst k0 k1 k2 k3 k4
  refine (law_callsG (WVerifies_fun a0 a1 a2 a3 a4 b0 (by omega) (by omega) (by omega) b4) (of_laid hL) ?_).mono fun e W' ⟨he, hb⟩ => ⟨_, he, post_law rfl hW' rfl rfl rfl rfl Tryd.underlying4 hb Tryd.laidOut ?_⟩
  · rw [e1]; simp only [GL]; exact ⟨_, _, rfl, g0, _, _, rfl, g1, _, _, rfl, g2, _, _, rfl, g3, _, _, rfl, g4, rfl⟩
  · rw [Tryd.params13]; decide +kernel

theorem wotsVerifies_f1 : (Rows.wotsVerifiesRow.inPlace == Tryd.prog.inPlace 13) = true := by kernel_rfl
theorem wotsVerifies_f2 : (Rows.wotsVerifiesRow.unfollowed == Tryd.prog.unfollowed 13) = true := by kernel_rfl
theorem wotsVerifies_f3 : (Rows.wotsVerifiesRow.recurses == Tryd.prog.recurses 13) = true := by kernel_rfl
theorem wotsVerifies_f4 : (Rows.wotsVerifiesRow.named == Tryd.prog.varsNamed 13) = true := by kernel_rfl
theorem wotsVerifies_f5 : Rows.wotsVerifiesRow.wf (OpenSpec.ofChange Rows.wotsVerifiesSpec) = true := by kernel_rfl
theorem wotsVerifies_joined : joinedFacts Tryd.prog 13 Tryd.f13 Rows.wotsVerifiesSpec Rows.wotsVerifiesRow = true :=
  joined_cut fWords fLays fRefl fDoor wotsVerifies_f5 Tryd.laidOut fRowed (by kernel_rfl) (by kernel_rfl) (by kernel_rfl) fStops (by kernel_rfl) fKnobs wotsVerifies_f1 wotsVerifies_f2 wotsVerifies_f3 wotsVerifies_f4
    (by kernel_rfl) (by kernel_rfl) (by kernel_rfl) (by kernel_rfl) (by kernel_rfl) (by kernel_rfl) (by kernel_rfl) (by kernel_rfl) (by kernel_rfl) fPlain (by kernel_rfl) (by kernel_rfl) fHeard (by kernel_rfl) rfl (by kernel_rfl) (by kernel_rfl) (by kernel_rfl) (by kernel_rfl)
theorem wotsVerifies_named : Tryd.prog.funcNamed Rows.wotsVerifiesRow.func = some 13 := by kernel_rfl
theorem wotsVerifies_row : Rows.WotsVerifiesSaid :=
  OpenClaim.holds_of_wide 13 Tryd.f13 rfl rfl rfl rfl rfl rfl rfl ⟨rfl, rfl, rfl, rfl, rfl⟩ rfl rfl rfl rfl rfl wotsVerifies_named Tryd.func13 wotsVerifies_joined
    (of_decide_eq_true (by kernel_rfl)) (by unfold Func.isWrapper; first | (rw [if_pos (by decide +kernel)]; kernel_rfl) | (rw [if_neg (by decide +kernel)]; exact ⟨rfl, rfl⟩))
    (fun os started H enc _ => wotsVerifies_lifted os started H enc)

theorem wotsVerifies_goes : false = Rows.wotsVerifiesRow.goesBy Tryd.prog := by kernel_rfl
theorem wotsVerifies_wft : Rows.wotsVerifiesRow.wfByText (OpenSpec.ofChange Rows.wotsVerifiesSpec) = true := by kernel_rfl
theorem wotsVerifies_holds : Rows.WotsVerifiesCardSaid :=
  Claim7.holds_tied_plain_at .later [] [.data, .data] true (true, "20426d89e038f2697c7132effd71a1a2c8b1afb32b8c091dc9a35aa83bbc1426") false
    wotsVerifies_row (fun _ h => by cases h) wotsVerifies_wft (fun _ h => by cases h) wotsVerifies_row_tie rfl ⟨rfl, rfl⟩ fMain rfl
    (fun f fn hf hfn => by
      obtain rfl : f = 13 := Option.some.inj (wotsVerifies_named.symm.trans hf) |>.symm
      obtain rfl : fn = Tryd.f13 := (Option.some.inj (Tryd.func13.symm.trans hfn)).symm
      exact ⟨fLooks, fun j t ht => by
        rw [Tryd.params13] at ht
        have hm : t ∈ [27, 23, 23, 23, 25] := by simpa using Array.mem_of_getElem? ht
        have hall : ([27, 23, 23, 23, 25].all fun u => !Tryd.prog.wantsStandIn u) = true := by kernel_rfl
        exact (show Tryd.prog.wantsStandIn t = false by simpa using List.all_eq_true.1 hall t hm)⟩)
    wotsVerifies_goes
#print axioms wotsVerifies_holds
end Go.Proofs.YtmpfooekljbhhaaDoor
