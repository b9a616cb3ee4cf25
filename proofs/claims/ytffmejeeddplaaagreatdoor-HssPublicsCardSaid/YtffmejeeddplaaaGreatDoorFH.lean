/- The abstract walk: an own kit for walks over this program (part FH). -/
import Derived.Test.YtffmejeeddplaaaGreatDoorFD
set_option linter.all false
namespace Go.Lv
open Go
structure View (Gl : List (Nat × List AV)) (fb : Nat) (s : St) (ρ : Nat → Option (Option Nat)) (N : Nat → Prop) (tm : Array Value) (w : World) : Prop where
  Nlt : ∀ b, N b → b < w.heap.size
  glob : ∀ g cs, lkf Gl g = some cs → N g ∧ GC cs ⟨w, N, fun _ => False, fun _ => none⟩ g 0
  fr : ∀ t, G (lkd .junk s.F t) ⟨w, N, fun b => fb ≤ b, ρ⟩ (tm.getD t undef)
  hp : HeapOK ⟨w, N, fun b => fb ≤ b, ρ⟩ s.H lkf
  own : ∀ id seg b, lkf s.H id = some seg → ρ id = some (some b) → ¬ N b ∧ (seg.fr = true → fb ≤ b)
  inj : ∀ i j b, lkf s.H i ≠ none → lkf s.H j ≠ none → ρ i = some (some b) → ρ j = some (some b) → i = j
  nx : ∀ id, ρ id ≠ none → id < s.nx
theorem Rel.view {E : Ent} {s : St} {ρ : Nat → Option (Option Nat)} {N : Nat → Prop} {a : Act} {w : World} (r : Rel E s ρ N a w) : View E.Gl E.fb s ρ N a.tmps w :=
  ⟨r.Nlt, r.glob, r.fr, r.hp, fun id seg b h1 h2 => ⟨(r.own id seg b h1 h2).1, (r.own id seg b h1 h2).2.2⟩, r.inj, r.nx⟩
structure Stp (M : Nat → Prop) (w w' : World) : Prop where
  lo : w.heap.size ≤ w'.heap.size
  ext : ∀ b, b < w.heap.size → ¬ M b → w'.heap[b]? = w.heap[b]?
  sz : ∀ (b : Nat) (c : Array Value) (T : TypeId) (f : Nat × Nat), w.heap[b]? = some (Obj.cells c T f) → ∃ (c' : Array Value) (T' : TypeId) (f' : Nat × Nat), w'.heap[b]? = some (Obj.cells c' T' f') ∧ c'.size = c.size
  os : w'.os = w.os
  tape : w'.tape = w.tape
  output : w'.output = w.output
theorem Rel.stp {E : Ent} {s : St} {ρ : Nat → Option (Option Nat)} {N : Nat → Prop} {a : Act} {w : World} (r : Rel E s ρ N a w) : Stp (· ∈ E.M) E.w0 w := ⟨r.lo, r.ext, r.s0, r.os, r.tape, r.output⟩
theorem Stp.trans {M M' : Nat → Prop} {w w' w'' : World} (h : Stp M w w') (h' : Stp M' w' w'') : Stp (fun b => M b ∨ M' b) w w'' :=
  ⟨Nat.le_trans h.lo h'.lo, fun b hb hM => (h'.ext b (Nat.lt_of_lt_of_le hb h.lo) fun q => hM (.inr q)).trans (h.ext b hb fun q => hM (.inl q)),
   fun b c T f hb => by obtain ⟨c1, T1, f1, e1, e2⟩ := h.sz b c T f hb; obtain ⟨c2, T2, f2, e3, e4⟩ := h'.sz b c1 T1 f1 e1; exact ⟨c2, T2, f2, e3, e4.trans e2⟩,
   h'.os.trans h.os, h'.tape.trans h.tape, h'.output.trans h.output⟩
theorem Stp.weak {M M' : Nat → Prop} {w w' : World} (h : Stp M w w') (hM : ∀ b, b < w.heap.size → M b → M' b) : Stp M' w w' :=
  ⟨h.lo, fun b hb hn => h.ext b hb fun q => hn (hM b hb q), h.sz, h.os, h.tape, h.output⟩
theorem Stp.alloc (w : World) (o : Obj) : Stp (fun _ => False) w (w.alloc o) :=
  ⟨by simp, fun b hb _ => heap_push_lt hb, fun b c T f h => ⟨c, T, f, (heap_push_lt (Array.getElem?_eq_some_iff.1 h).1).trans h, rfl⟩, rfl, rfl, rfl⟩
theorem Stp.putObj {w : World} {l : Nat} {o : Obj} (o' : Obj) (h : w.heap[l]? = some o) (ho : ∀ c T f, o ≠ .cells c T f) : Stp (· = l) w (w.putObj l o') := by
  refine ⟨by simp, fun b hb hn => World.putObj_heap_other hn, fun b c T f hb => ⟨c, T, f, ?_, rfl⟩, rfl, rfl, rfl⟩
  rw [World.putObj_heap_other]
  · exact hb
  · rintro rfl
    rw [h] at hb
    exact ho c T f (Option.some.inj hb)
section
variable {Gl : List (Nat × List AV)} {fb : Nat} {s : St} {ρ : Nat → Option (Option Nat)} {N : Nat → Prop} {tm : Array Value} {w w' : World}
theorem View.blk (v : View Gl fb s ρ N tm w) {id : Nat} {seg : Seg} {b : Nat} (h : lkf s.H id = some seg) (hb : ρ id = some (some b)) : ∃ c T f, w.heap[b]? = some (Obj.cells c T f) := by
  rcases v.hp id seg h with ⟨h1, _⟩ | ⟨b', c, T, h1, h2, _⟩
  · rw [show ρ id = some none from h1] at hb; cases hb
  · rw [show ρ id = some (some b') from h1] at hb; cases hb; exact ⟨c, T, _, h2⟩
theorem View.blt (v : View Gl fb s ρ N tm w) {id : Nat} {seg : Seg} {b : Nat} (h : lkf s.H id = some seg) (hb : ρ id = some (some b)) : b < w.heap.size := by
  obtain ⟨c, T, f, h⟩ := v.blk h hb
  exact (Array.getElem?_eq_some_iff.1 h).1
theorem View.step {M : Nat → Prop} (v : View Gl fb s ρ N tm w) (h : Stp M w w') (hN : ∀ b, N b → ¬ M b) (hO : ∀ id seg b, lkf s.H id = some seg → ρ id = some (some b) → ¬ M b) : View Gl fb s ρ N tm w' := by
  have cle : (⟨w, N, fun b => fb ≤ b, ρ⟩ : Cx).le ⟨w', N, fun b => fb ≤ b, ρ⟩ := ⟨fun _ h => h, fun b hb => h.ext b (v.Nlt b hb) (hN b hb), fun _ _ h => h, fun _ h => h, h.sz⟩
  refine ⟨fun b hb => Nat.lt_of_lt_of_le (v.Nlt b hb) h.lo, fun g cs hg => ?_, fun t => G_mono _ cle (v.fr t), fun id seg hs => ?_, v.own, v.inj, v.nx⟩
  · obtain ⟨h1, h2⟩ := v.glob g cs hg
    exact ⟨h1, GC_ro cs (c := (⟨w, N, fun b => fb ≤ b, ρ⟩ : Cx).rf) (c' := (⟨w', N, fun b => fb ≤ b, ρ⟩ : Cx).rf) cle.toRf h1 h2⟩
  · rcases v.hp id seg hs with h1 | ⟨b, c, T, h1, h2, h3⟩
    · exact .inl h1
    · have e := h.ext b (Array.getElem?_eq_some_iff.1 h2).1 (hO id seg b hs h1)
      exact .inr ⟨b, c, T, h1, e.trans h2, GC_mono cle (fun o => cell_of_heap e o) _ h3⟩
theorem View.more (v : View Gl fb s ρ N tm w) {N' : Nat → Prop} (hN : ∀ b, N b → N' b) (hlt : ∀ b, N' b → b < w.heap.size) (hO : ∀ id seg b, lkf s.H id = some seg → ρ id = some (some b) → ¬ N' b) : View Gl fb s ρ N' tm w := by
  have cle : (⟨w, N, fun b => fb ≤ b, ρ⟩ : Cx).le ⟨w, N', fun b => fb ≤ b, ρ⟩ := ⟨hN, fun _ _ => rfl, fun _ _ h => h, fun _ h => h, fun b c T f h => ⟨c, T, f, h, rfl⟩⟩
  refine ⟨hlt, fun g cs hg => ?_, fun t => G_mono _ cle (v.fr t), fun id seg hs => ?_, fun id seg b h1 h2 => ⟨hO id seg b h1 h2, (v.own id seg b h1 h2).2⟩, v.inj, v.nx⟩
  · obtain ⟨h1, h2⟩ := v.glob g cs hg
    exact ⟨hN _ h1, GC_ro cs (c := (⟨w, N, fun b => fb ≤ b, ρ⟩ : Cx).rf) (c' := (⟨w, N', fun b => fb ≤ b, ρ⟩ : Cx).rf) cle.toRf h1 h2⟩
  · rcases v.hp id seg hs with h1 | ⟨b, c, T, h1, h2, h3⟩
    · exact .inl h1
    · exact .inr ⟨b, c, T, h1, h2, GC_mono cle (fun _ => rfl) _ h3⟩
theorem View.refr (v : View Gl fb s ρ N tm w) {F : List (Nat × AV)} {tm' : Array Value} (h : ∀ t, G (lkd .junk F t) ⟨w, N, fun b => fb ≤ b, ρ⟩ (tm'.getD t undef)) : View Gl fb ⟨F, s.H, s.nx⟩ ρ N tm' w :=
  ⟨v.Nlt, v.glob, h, v.hp, v.own, v.inj, v.nx⟩
theorem View.less (v : View Gl fb s ρ N tm w) {H' : List (Nat × Seg)} (h : ∀ id seg, lkf H' id = some seg → lkf s.H id = some seg) : View Gl fb ⟨s.F, H', s.nx⟩ ρ N tm w := by
  have nn : ∀ i, lkf H' i ≠ none → lkf s.H i ≠ none := by
    intro i hi
    cases hs : lkf H' i with
    | none => exact absurd hs hi
    | some sg => simp [h i sg hs]
  exact ⟨v.Nlt, v.glob, v.fr, fun id seg hs => v.hp id seg (h id seg hs), fun id seg b hs => v.own id seg b (h id seg hs), fun i j b hi hj => v.inj i j b (nn i hi) (nn j hj), v.nx⟩
end
def mOf (ρ : Nat → Option (Option Nat)) (H : List (Nat × Seg)) : List Nat := H.filterMap fun p => match ρ p.1 with | some (some b) => some b | _ => none
theorem mem_mOf {ρ : Nat → Option (Option Nat)} {H : List (Nat × Seg)} {b : Nat} : b ∈ mOf ρ H ↔ ∃ id seg, lkf H id = some seg ∧ ρ id = some (some b) := by
  simp only [mOf, List.mem_filterMap]
  constructor
  · rintro ⟨p, hp, h⟩
    split at h
    · rename_i b' hb'
      cases h
      have h1 : lkf H p.1 ≠ none := lkf_some (v := p.2) hp
      cases hs : lkf H p.1 with
      | none => exact absurd hs h1
      | some sg => exact ⟨_, _, hs, hb'⟩
    · cases h
  · rintro ⟨id, seg, h1, h2⟩
    exact ⟨(id, seg), lkf_mem h1, by simp [h2]⟩
def lOf (ρ : Nat → Option (Option Nat)) (n : Nat) : List (Nat × Option Nat) := (List.range n).filterMap fun id => (ρ id).map fun y => (id, y)
theorem mem_lOf {ρ : Nat → Option (Option Nat)} {n : Nat} {p : Nat × Option Nat} : p ∈ lOf ρ n ↔ p.1 < n ∧ ρ p.1 = some p.2 := by
  obtain ⟨i, y⟩ := p
  simp only [lOf, List.mem_filterMap, List.mem_range]
  constructor
  · rintro ⟨id, h1, h2⟩
    cases hr : ρ id with
    | none => simp [hr] at h2
    | some z => simp only [hr, Option.map_some, Option.some.injEq, Prod.mk.injEq] at h2; obtain ⟨rfl, rfl⟩ := h2; exact ⟨h1, hr⟩
  · rintro ⟨h1, h2⟩
    exact ⟨i, h1, by simp [h2]⟩
theorem View.rel {P : Program} {Gl : List (Nat × List AV)} {fb : Nat} {s : St} {ρ : Nat → Option (Option Nat)} {N : Nat → Prop} {a : Act} {w : World} (v : View Gl fb s ρ N a.tmps w) {M : List Nat} {L : List (Nat × Option Nat)} {nt : Nat} {ds : List Deferred}
    (hfb : fb ≤ w.heap.size) (hM : ∀ id seg b, lkf s.H id = some seg → ρ id = some (some b) → b ∈ M) (hL : ∀ p ∈ L, ρ p.1 = some p.2) (hn : a.tmps.size = nt) (hd : a.defers = ds) : Rel ⟨P, Gl, w, N, M, L, nt, ds, fb⟩ s ρ N a w :=
  ⟨v.Nlt, fun _ h => h, fun _ h => .inl h, v.glob, v.fr, v.hp, fun id seg b h1 h2 => ⟨(v.own id seg b h1 h2).1, .inr (hM id seg b h1 h2), (v.own id seg b h1 h2).2⟩, v.inj, v.nx, Nat.le_refl _, fun _ _ _ => rfl, rfl, rfl, rfl, hd, hn, hL, fun b c T f h => ⟨c, T, f, h, rfl⟩, hfb⟩
mutual
theorem ren_nil : ∀ (x : AV), ren [] x = x
  | .ptr _ _ | .sl _ _ _ _ => rfl
  | .rop fr cs => by simp only [ren, renL_nil cs]
  | .ros fr n cs => by simp only [ren, renL_nil cs]
  | .agg cs => by simp only [ren, renL_nil cs]
  | .tup cs => by simp only [ren, renL_nil cs]
  | .fn f fs cs => by simp only [ren, renL_nil fs, renL_nil cs]
  | .ifc t x => by simp only [ren, ren_nil x]
  | .i _ | .u8 _ | .u16 _ | .u32 _ | .u64 _ | .b _ | .s _ | .nilp | .nils | .nilfn | .nilif | .junk => rfl
theorem renL_nil : ∀ (xs : List AV), ren.renL [] xs = xs
  | [] => rfl
  | x :: xs => by simp only [ren.renL, ren_nil x, renL_nil xs]
end
theorem idkL_mem {n : Nat} : ∀ {xs : List AV}, idk.idkL n xs → ∀ x ∈ xs, idk n x
  | [], _, x, hx => by cases hx
  | y :: ys, h, x, hx => by
    rcases List.mem_cons.1 hx with rfl | hx
    · exact h.1
    · exact idkL_mem h.2 x hx
theorem lkd_mem (F : List (Nat × AV)) (t : Nat) : lkd .junk F t = .junk ∨ lkd .junk F t ∈ F.map Prod.snd := by
  induction F with
  | nil => exact .inl rfl
  | cons p r ih =>
    obtain ⟨k, u⟩ := p
    simp only [lkd]
    cases Nat.beq k t with
    | true => exact .inr (List.mem_cons_self ..)
    | false => exact ih.imp (fun h => h) (List.mem_cons_of_mem _)
theorem idk_lkd {n : Nat} {F : List (Nat × AV)} (h : idk.idkL n (F.map Prod.snd)) (t : Nat) : idk n (lkd .junk F t) := by
  rcases lkd_mem F t with e | e
  · rw [e]; trivial
  · exact idkL_mem h _ e
theorem G_low {n : Nat} {x : AV} {w w' : World} {N N' Fb : Nat → Prop} {ρ ρ' : Nat → Option (Option Nat)} {v : Value} (hx : idk n x) (hN : ∀ b, N b → N' b) (hro : ∀ b, N b → w'.heap[b]? = w.heap[b]?)
    (hρ : ∀ id y, id < n → ρ id = some y → ρ' id = some y) (hsz : ∀ (b : Nat) (c : Array Value) (T : TypeId) (f : Nat × Nat), w.heap[b]? = some (Obj.cells c T f) → ∃ (c' : Array Value) (T' : TypeId) (f' : Nat × Nat), w'.heap[b]? = some (Obj.cells c' T' f') ∧ c'.size = c.size)
    (h : G x ⟨w, N, Fb, ρ⟩ v) : G x ⟨w', N', Fb, ρ'⟩ v := by
  have h1 := G_ren [] n x (c := ⟨w, N, Fb, ρ⟩) hx (by rw [ren_nil]; exact h)
  refine G_mono x (c := (⟨w, N, Fb, ρ⟩ : Cx).mv [] n) (c' := ⟨w', N', Fb, ρ'⟩) ⟨hN, hro, fun id y hy => ?_, fun _ h => h, hsz⟩ h1
  by_cases hi : id < n
  · simp only [Cx.mv, if_pos hi, lkd] at hy; exact hρ id y hi hy
  · simp [Cx.mv, if_neg hi] at hy
def opn : Stk → Bool
  | .done _ => false
  | .seq _ k => opn k
  | .blk _ k => opn k
  | .lp _ _ => false
  | .raw _ => true
  | .fin _ => false
  | .lpW _ k => opn k
theorem conc_free {E E' : Ent} (hP : E.P = E'.P) : ∀ (k : Stk), opn k = true → conc E k = conc E' k
  | .done _, h => by simp [opn] at h
  | .seq r k, h => by simp only [conc, conc_free hP k (by simpa [opn] using h), hP]
  | .blk id k, h => by simp only [conc, conc_free hP k (by simpa [opn] using h)]
  | .lp _ _, h => by simp [opn] at h
  | .raw _, _ => rfl
  | .fin _, h => by simp [opn] at h
  | .lpW N k, h => by simp only [conc, conc_free hP k (by simpa [opn] using h)]
theorem Wk_l {κ : Kt} {s s' : St} (m : List (Nat × Nat)) (hl : ∀ E, κ.lent E → E.L = []) (h : wkF m s'.nx s.F s'.F ∧ wkH m s'.nx s.H s'.H ∧ wkM m s'.H) : Wk κ s s' := by
  intro E hE a w ⟨ρ, N, r⟩
  exact ⟨_, N, r.wk m h.1 h.2.1 h.2.2 fun p hp => by rw [hl E hE.lent] at hp; cases hp⟩
def YH (P : Program) (Gl : List (Nat × List AV)) (nt : Nat) (L0 : Ent → Prop) (yl : Nat) (L1 : Ent → Prop) (az : List AV) (b : Bool) : Prop :=
  ∀ (E : Ent) (s : St) (ρ : Nat → Option (Option Nat)) (N : Nat → Prop) (a : Act) (w : World) (vs : Array Value), E.P = P → E.Gl = Gl → E.nt = nt → L0 E → Rel E s ρ N a w → GL az (E.cx w N ρ) vs.toList →
    ∃ f tm asg bd, (Instr.yield yl vs).run P w = .ok (.round yl f tm asg bd) w ∧
      RoundIn Fence.wide 0 P yl f tm asg bd w fun e w' => e = .returned (.bool b) ∧ ∃ E' N', E'.P = P ∧ E'.Gl = Gl ∧ E'.nt = nt ∧ L1 E' ∧ Rel E' s ρ N' a w'
theorem AW_yield {P : Program} {Gl : List (Nat × List AV)} {Ct : List (Nat × (List AV → R))} {nt : Nat} {L0 L1 : Ent → Prop} {d : Nat} {f : X} {xs : List X} {l : List C} {k : Stk} {s : St} {az : List AV} {b : Bool} {yl : Nat} (hy : YH P Gl nt L0 yl L1 az b)
    (hf : evx Gl s.F f = .fn (.yield yl) [] []) (hd : d < nt) (has : evs Gl s.F xs = az) (hk : opn k = true)
    (h : AW ⟨P, Gl, Ct, nt, L1⟩ l k ⟨(d, .b b) :: ers s.F d, s.H, s.nx⟩) : AW ⟨P, Gl, Ct, nt, L0⟩ (.y (.call d f xs) :: l) k s := by
  intro E hE a w ⟨ρ, N, r⟩
  have hP : E.P = P := hE.P
  have hG : E.Gl = Gl := hE.Gl
  have hnt : E.nt = nt := hE.nt
  have hL : L0 E := hE.lent
  simp only [cwp, cw1]
  refine .inr fun ops o hc => ?_
  obtain ⟨hg, hop⟩ := cI_ng hc rfl
  obtain ⟨dst, op, ty, pos, after, guard⟩ := o
  obtain ⟨rfl, f', args, tys, rfl, rfl, rfl⟩ := cOp_call hop
  have gf := evx_sound r f'
  rw [hG, hf] at gf
  simp only [G] at gf
  obtain ⟨v1, v2, e1, e2, e3⟩ := gf
  obtain rfl : v1 = #[] := by simpa [GL] using e2
  obtain rfl : v2 = #[] := by simpa [GL] using e3
  have gx : GL az (E.cx w N ρ) ((args.map a.eval).toList) := by
    rw [← has, ← hG, Array.toList_map]
    exact evs_sound r args.toList
  obtain ⟨f1, tm, asg, bd, h1, h2⟩ := hy E s ρ N a w (args.map a.eval) hP hG hnt hL r gx
  refine ⟨by simp [Region.wanted, show guard = none from hg], yl, f1, tm, asg, bd, w, ?_, RoundIn.mono h2 ?_⟩
  · simp [execOp, resolve, Deferred.ofValue, e1, invoke, h1]
  · rintro e w' ⟨rfl, E', N', p1, p2, p3, p4, p5⟩
    refine ⟨_, rfl, ?_⟩
    have hh := h E' ⟨p1, p2, p3, p4⟩ _ w' ⟨ρ, N', p5.put (d := d) (x := .b b) (v := .bool b) (by rw [p3]; exact hd) (by simp only [G])⟩
    simp only [Exit.then]
    rw [conc_free (E := E) (E' := E') (hP.trans p1.symm) k hk]
    exact hh
def lpN {ι : Type} (P : Program) (Gl : List (Nat × List AV)) (nt : Nat) (Ls : ι → Ent → Prop) (σ : ι → St) (I : ι → Prop) (μ : ι → Nat) (i : ι) : Act → World → Prop := fun a w => ∃ j E, I j ∧ μ j < μ i ∧ (⟨P, Gl, [], nt, Ls j⟩ : Kt).ok E ∧ Gam E (σ j) a w
theorem ok_ct {P : Program} {Gl : List (Nat × List AV)} {Ct Ct' : List (Nat × (List AV → R))} {nt : Nat} {L : Ent → Prop} {E : Ent} (h : (⟨P, Gl, Ct, nt, L⟩ : Kt).ok E) : (⟨P, Gl, Ct', nt, L⟩ : Kt).ok E := ⟨h.P, h.Gl, h.nt, h.lent⟩
theorem AW_loopW {ι : Type} {P : Program} {Gl : List (Nat × List AV)} {Ct : List (Nat × (List AV → R))} {nt : Nat} (Ls : ι → Ent → Prop) (σ : ι → St) (I : ι → Prop) (μ : ι → Nat) (i0 : ι) {b l : List C} {k : Stk} {s : St} (hi : I i0)
    (h0 : Wk ⟨P, Gl, Ct, nt, Ls i0⟩ s (σ i0)) (hk : opn k = true)
    (hb : ∀ i, I i → AW ⟨P, Gl, Ct, nt, Ls i⟩ b (.lpW (lpN P Gl nt Ls σ I μ i) (.seq l k)) (σ i)) : AW ⟨P, Gl, Ct, nt, Ls i0⟩ (.lp b :: l) k s := by
  refine AW_wk h0 ?_
  intro E hE a w hg
  simp only [cwp, cw1]
  have hP : E.P = P := hE.P
  let D : Nat → Act → World → Prop := fun n a w => ∃ j E, I j ∧ μ j = n ∧ (⟨P, Gl, Ct, nt, Ls j⟩ : Kt).ok E ∧ Gam E (σ j) a w
  classical
  refine ⟨fun a w => ∃ n, D n a w, fun a w => if h : ∃ n, D n a w then (exists_min h).choose else 0, ⟨_, i0, E, hi, rfl, hE, hg⟩, ?_⟩
  intro a w hex
  have hm := (exists_min hex).choose_spec
  obtain ⟨j, E1, q1, q2, q3, q4⟩ := hm.1
  have hh := hb j q1 E1 (ok_ct q3) a w q4
  simp only [conc] at hh
  refine cwp_mono b ?_ a w hh
  have e1 : conc E1 k = conc E k := conc_free (q3.P.trans hP.symm) k hk
  have e2 : E1.P = P := q3.P
  rw [e1, e2]
  refine then_mono ?_ fun _ _ _ h => ?_
  · rintro a' w' ⟨j', E', r1, r2, r3, r4⟩
    have hex' : ∃ n, D n a' w' := ⟨_, j', E', r1, rfl, ok_ct r3, r4⟩
    refine ⟨hex', ?_⟩
    show dite _ _ _ < dite _ _ _
    rw [dif_pos hex', dif_pos hex]
    have := (exists_min hex').choose_spec.2 _ ⟨j', E', r1, rfl, ok_ct r3, r4⟩
    omega
  · exact h
theorem AW_lpW {ι : Type} {P : Program} {Gl : List (Nat × List AV)} {Ct : List (Nat × (List AV → R))} {nt : Nat} {Ls : ι → Ent → Prop} {σ : ι → St} {I : ι → Prop} {μ : ι → Nat} {i : ι} {k : Stk} {s : St} (j : ι) (h1 : I j) (h2 : μ j < μ i) (h3 : Wk ⟨P, Gl, Ct, nt, Ls j⟩ s (σ j)) :
    AW ⟨P, Gl, Ct, nt, Ls j⟩ [] (.lpW (lpN P Gl nt Ls σ I μ i) k) s := by
  intro E hE a w hg
  simp only [cwp, conc, Exit.then]
  exact ⟨j, E, h1, h2, ok_ct hE, h3 E hE a w hg⟩
def endW (P : Program) (Gl : List (Nat × List AV)) (nt : Nat) (L1 : Ent → Prop) : Exit → Act → World → Prop := fun e a w => (e = .normal ∨ e = .ret) ∧ ∃ E s, E.P = P ∧ E.Gl = Gl ∧ E.nt = nt ∧ L1 E ∧ Gam E s a w
theorem AW_endN {P : Program} {Gl : List (Nat × List AV)} {Ct : List (Nat × (List AV → R))} {nt : Nat} {L1 : Ent → Prop} {s : St} : AW ⟨P, Gl, Ct, nt, L1⟩ [] (.raw (endW P Gl nt L1)) s := by
  intro E hE a w hg
  simp only [cwp, conc]
  exact ⟨.inl rfl, E, s, hE.P, hE.Gl, hE.nt, hE.lent, hg⟩
theorem AW_endR {P : Program} {Gl : List (Nat × List AV)} {Ct : List (Nat × (List AV → R))} {nt : Nat} {L1 : Ent → Prop} {s : St} {l : List C} : AW ⟨P, Gl, Ct, nt, L1⟩ (.ret :: l) (.raw (endW P Gl nt L1)) s := by
  intro E hE a w hg
  simp only [cwp, cw1, conc, Exit.then]
  exact ⟨.inr rfl, E, s, hE.P, hE.Gl, hE.nt, hE.lent, hg⟩
end Go.Lv
namespace Go.Lv
open Go
def putF : List Nat → List AV → List (Nat × AV) → List (Nat × AV)
  | p :: ps, v :: vs, F => putF ps vs ((p, v) :: ers F p)
  | _, _, F => F
attribute [go_sem] putF
theorem putF_fr {c : Cx} : ∀ {ps : List Nat} {az : List AV} {vs : List Value} {F : List (Nat × AV)} {tm : Array Value}, GL az c vs → ps.all (· < tm.size) = true → (∀ t, G (lkd .junk F t) c (tm.getD t undef)) →
    ((ps.zip vs).foldl (fun t (p : Nat × Value) => t.setIfInBounds p.1 p.2) tm).size = tm.size ∧ ∀ t, G (lkd .junk (putF ps az F) t) c (((ps.zip vs).foldl (fun t (p : Nat × Value) => t.setIfInBounds p.1 p.2) tm).getD t undef)
  | [], az, vs, F, tm, _, _, h => by simpa [putF] using h
  | p :: ps, [], vs, F, tm, hg, _, h => by
    obtain rfl : vs = [] := by simpa [GL] using hg
    simpa [putF] using h
  | p :: ps, x :: az, vs, F, tm, hg, hp, h => by
    simp only [GL] at hg
    obtain ⟨u, us, rfl, h1, h2⟩ := hg
    simp only [List.all_cons, Bool.and_eq_true, decide_eq_true_eq] at hp
    simp only [putF, List.zip_cons_cons, List.foldl_cons]
    have ih := putF_fr (F := (p, x) :: ers F p) (tm := tm.setIfInBounds p u) h2 (by simpa using hp.2) fun t => by
      rw [lkd_put]
      by_cases e : p = t
      · subst e; rw [if_pos rfl]; simpa [hp.1] using h1
      · rw [if_neg e]; have := h t; simpa [Array.getElem?_setIfInBounds_ne e] using this
    refine ⟨by rw [ih.1]; simp, ih.2⟩
structure Stg (Gl : List (Nat × List AV)) (fb nx0 : Nat) (F0 : List (Nat × AV)) (tm : Array Value) (l : Nat) (ρ : Nat → Option (Option Nat)) (N : Nat → Prop) (O : Nat → Prop) (w : World)
    (H' : List (Nat × Seg)) (nx' : Nat) (ρ' : Nat → Option (Option Nat)) (N' : Nat → Prop) (O' : Nat → Prop) (w' : World) : Prop where
  view : View Gl fb ⟨F0, H', nx'⟩ ρ' N' tm w'
  own : ∀ id seg b, lkf H' id = some seg → ρ' id = some (some b) → O' b
  oc : ∀ b, O' b → ∃ c T f, w'.heap[b]? = some (Obj.cells c T f)
  stp : Stp (fun b => O b ∨ b = l) w w'
  le : ∀ b, N b → N' b
  fr : ∀ b, N' b → N b ∨ (fb ≤ b ∧ (w.heap.size ≤ b ∨ O b))
  ρ : ∀ id y, id < nx0 → ρ id = some y → ρ' id = some y
  ol : ∀ b, O' b → w.heap.size ≤ b ∨ O b
  no : ∀ b, O' b → ¬ N' b
section
variable {P : Program} {Gl : List (Nat × List AV)} {fb nx0 : Nat} {F0 : List (Nat × AV)} {tm : Array Value} {l : Nat} {ρ : Nat → Option (Option Nat)} {N : Nat → Prop} {w : World} {nt : Nat}
theorem Stg.of {H : List (Nat × Seg)} {nx : Nat} {s' : St} {ρ' : Nat → Option (Option Nat)} {N' : Nat → Prop} {a' : Act} {w' : World} (hidk : idk.idkL nx0 (F0.map Prod.snd)) (v : View Gl fb ⟨F0, H, nx⟩ ρ N tm w)
    (r : Rel ⟨P, Gl, w, N, mOf ρ H, lOf ρ nx0, nt, [], fb⟩ s' ρ' N' a' w') :
    Stg Gl fb nx0 F0 tm l ρ N (fun b => ∃ id seg, lkf H id = some seg ∧ ρ id = some (some b)) w s'.H s'.nx ρ' N' (fun b => ∃ id seg, lkf s'.H id = some seg ∧ ρ' id = some (some b)) w' := by
  have hM : ∀ b, b ∈ mOf ρ H ↔ ∃ id seg, lkf H id = some seg ∧ ρ id = some (some b) := fun b => mem_mOf
  have hρ : ∀ id y, id < nx0 → ρ id = some y → ρ' id = some y := fun id y h1 h2 => r.ln (id, y) (mem_lOf.2 ⟨h1, h2⟩)
  have hNM : ∀ b, N b → b ∉ mOf ρ H := fun b hb hm => by
    obtain ⟨id, seg, h1, h2⟩ := (hM b).1 hm
    exact (v.own id seg b h1 h2).1 hb
  refine ⟨r.view.refr (F := F0) (tm' := tm) fun t => G_low (w := w) (N := N) (ρ := ρ) (idk_lkd hidk t) r.N0 (fun b hb => r.ext b (v.Nlt b hb) (hNM b hb)) hρ r.s0 (v.fr t), fun id seg b h1 h2 => ⟨id, seg, h1, h2⟩,
    fun b ⟨id, seg, h1, h2⟩ => r.view.blk h1 h2, r.stp.weak fun b _ h => .inl ((hM b).1 h), r.N0, fun b hb => (r.Nfr b hb).imp (fun h => h) fun h => ⟨h.1, h.2.imp (fun h => h) fun h => (hM b).1 h⟩, hρ,
    fun b ⟨id, seg, h1, h2⟩ => (r.own id seg b h1 h2).2.1.imp (fun h => h) fun h => (hM b).1 h, fun b ⟨id, seg, h1, h2⟩ => (r.own id seg b h1 h2).1⟩
theorem Stg.put {H' : List (Nat × Seg)} {nx' : Nat} {ρ' : Nat → Option (Option Nat)} {N O N' O' : Nat → Prop} {w' : World} {rc : Loop} (g : Stg Gl fb nx0 F0 tm l ρ N O w H' nx' ρ' N' O' w') (rc' : Loop) (hl : w'.heap[l]? = some (.loop rc)) (hn : ¬ N' l) :
    Stg Gl fb nx0 F0 tm l ρ N O w H' nx' ρ' N' O' (w'.putObj l (.loop rc')) := by
  have st := Stp.putObj (.loop rc') hl (by simp)
  have hne : ∀ b, O' b → b ≠ l := by
    rintro b hb rfl
    obtain ⟨c, T, f, h⟩ := g.oc b hb
    rw [hl] at h; cases h
  refine ⟨g.view.step st (fun b hb e => hn (e ▸ hb)) (fun id seg b h1 h2 e => hne b (g.own id seg b h1 h2) e), g.own, fun b hb => ?_, ?_, g.le, g.fr, g.ρ, g.ol, g.no⟩
  · obtain ⟨c, T, f, h⟩ := g.oc b hb
    exact ⟨c, T, f, (World.putObj_heap_other (hne b hb)).trans h⟩
  · exact (g.stp.trans st).weak fun b _ h => by rcases h with h | h; exact h; exact .inr h
theorem Stg.trans {H' H2 : List (Nat × Seg)} {nx' nx2 : Nat} {ρ' ρ2 : Nat → Option (Option Nat)} {O N' O' N2 O2 : Nat → Prop} {w' w2 : World} (g : Stg Gl fb nx0 F0 tm l ρ N O w H' nx' ρ' N' O' w') (h : Stg Gl fb nx0 F0 tm l ρ' N' O' w' H2 nx2 ρ2 N2 O2 w2) :
    Stg Gl fb nx0 F0 tm l ρ N O w H2 nx2 ρ2 N2 O2 w2 := by
  refine ⟨h.view, h.own, h.oc, (g.stp.trans h.stp).weak fun b hb q => ?_, fun b hb => h.le b (g.le b hb), fun b hb => ?_, fun id y h1 h2 => h.ρ id y h1 (g.ρ id y h1 h2), fun b hb => ?_, h.no⟩
  · rcases q with q | q | q
    · exact q
    · rcases g.ol b q with q | q
      · omega
      · exact .inl q
    · exact .inr q
  · rcases h.fr b hb with q | ⟨q1, q2⟩
    · exact g.fr b q
    · refine .inr ⟨q1, ?_⟩
      rcases q2 with q2 | q2
      · exact .inl (Nat.le_trans g.stp.lo q2)
      · exact g.ol b q2
  · rcases h.ol b hb with q | q
    · exact .inl (Nat.le_trans g.stp.lo q)
    · exact g.ol b q
end
def lentR (n : Nat) (E : Ent) : Prop := ∀ p ∈ E.L, p.1 < n
theorem Wk_r {P : Program} {Gl : List (Nat × List AV)} {Ct : List (Nat × (List AV → R))} {nt n : Nat} {s s' : St} (m : List (Nat × Nat)) (hn : n ≤ s'.nx) (hm : m.all (fun p => decide (n ≤ p.1)) = true) (h : wkF m s'.nx s.F s'.F ∧ wkH m s'.nx s.H s'.H ∧ wkM m s'.H) : Wk ⟨P, Gl, Ct, nt, lentR n⟩ s s' := by
  intro E hE a w ⟨ρ, N, r⟩
  refine ⟨_, N, r.wk m h.1 h.2.1 h.2.2 fun p hp => ?_⟩
  have hlt := (show lentR n E from hE.lent) p hp
  refine ⟨Nat.lt_of_lt_of_le hlt hn, ?_⟩
  have : ∀ (m : List (Nat × Nat)), m.all (fun p => decide (n ≤ p.1)) = true → lkd p.1 m p.1 = p.1 := by
    intro m hm
    induction m with
    | nil => rfl
    | cons q r ih =>
      simp only [List.all_cons, Bool.and_eq_true, decide_eq_true_eq] at hm
      obtain ⟨j, i⟩ := q
      simp only [lkd]
      cases hb : Nat.beq j p.1 with
      | true => have := Nat.eq_of_beq_eq_true hb; simp only at hm; omega
      | false => exact ih hm.2
  exact this m hm
def RoundOK (P : Program) (Gl : List (Nat × List AV)) (Ct : List (Nat × (List AV → R))) (nt nx0 : Nat) (A B : List C) (ps : List Nat) (F0 : List (Nat × AV)) (az : List AV) (H : List (Nat × Seg)) (nx : Nat) (e : Exit) (H' : List (Nat × Seg)) (nx' : Nat) : Prop :=
  AW ⟨P, Gl, Ct, nt, lentR nx0⟩ A (.fin fun e' s => e' = .normal ∧ AW ⟨P, Gl, Ct, nt, lentR nx0⟩ B (.fin fun e' s => e' = e ∧ Wk ⟨P, Gl, Ct, nt, lentR nx0⟩ s ⟨[], H', nx'⟩) s) ⟨putF ps az F0, H, nx⟩
theorem roundPost_of {P : Program} {l : Nat} {rc : Loop} {R : Ending → World → Prop} {e : Exit} {a : Act} {w : World} (hl : w.heap[l]? = some (.loop rc)) (j : Option Code)
    (he : (e = .normal ∧ j = none) ∨ (e = .ret ∧ j = some .ret) ∨ ∃ id, e = .exit id ∧ j = some (.exit id))
    (h : R (.returned (.bool j.isNone)) (w.putObj l (.loop { rc with state := if j.isNone then .ready else .done, pending := j }))) : roundPost P l R e a w := by
  rcases he with ⟨rfl, rfl⟩ | ⟨rfl, rfl⟩ | ⟨id, rfl, rfl⟩
  · exact ⟨_, _, run_endRound none hl, h⟩
  · exact ⟨_, _, run_endRound (some .ret) hl, h⟩
  · exact ⟨_, _, run_endRound (some (.exit id)) hl, h⟩
theorem round_run {P : Program} {Gl : List (Nat × List AV)} {Ct : List (Nat × (List AV → R))} {nt nx0 : Nat} {A' B' : Code} {ps : List Nat} {F0 : List (Nat × AV)} {az : List AV} {H H' : List (Nat × Seg)} {nx nx' : Nat} {e : Exit} {tm : Array Value}
    {fb l : Nat} {ρ : Nat → Option (Option Nat)} {N : Nat → Prop} {w : World} {rc : Loop} {vs : List Value} {f : FuncId} (j : Option Code)
    (hm : P.follows .mixedOrders = true) (hrA : rdy A' = true) (hrB : rdy B' = true) (hr : RoundOK P Gl Ct nt nx0 (cc A') (cc B') ps F0 az H nx e H' nx')
    (he : (e = .normal ∧ j = none) ∨ (e = .ret ∧ j = some .ret) ∨ ∃ id, e = .exit id ∧ j = some (.exit id))
    (hidk : idk.idkL nx0 (F0.map Prod.snd)) (hps : ps.all (· < nt) = true) (hnt : tm.size = nt) (hfb : fb ≤ w.heap.size) (hla : az.length = ps.length)
    (v : View Gl fb ⟨F0, H, nx⟩ ρ N tm w) (hg : GL az ⟨w, N, fun b => fb ≤ b, ρ⟩ vs) (hl : w.heap[l]? = some (.loop rc)) (hrc : rc.state = .ready) (hN : ¬ N l) {R : Ending → World → Prop}
    (hR : ∀ ρ' N' O' w' rc0, Stg Gl fb nx0 F0 tm l ρ N (fun b => ∃ id seg, lkf H id = some seg ∧ ρ id = some (some b)) w H' nx' ρ' N' O' w' → w'.heap[l]? = some (.loop rc0) → rc0 = { rc with state := .busy } →
      R (.returned (.bool j.isNone)) (w'.putObj l (.loop { rc0 with state := if j.isNone then .ready else .done, pending := j }))) :
    RoundIn Fence.wide 0 P l f ((ps.zip vs).foldl (fun t (p : Nat × Value) => t.setIfInBounds p.1 p.2) tm) A' B' w R := by
  have hA := hr
  unfold RoundOK at hA
  obtain ⟨hsz, hfr⟩ := putF_fr (F := F0) hg (by rw [hnt]; exact hps) v.fr
  have vr : View Gl fb ⟨putF ps az F0, H, nx⟩ ρ N ((ps.zip vs).foldl (fun t (p : Nat × Value) => t.setIfInBounds p.1 p.2) tm) w := v.refr hfr
  have lD : ∀ (ρ : Nat → Option (Option Nat)) (w : World) (N : Nat → Prop) (M : List Nat), lentR nx0 ⟨P, Gl, w, N, M, lOf ρ nx0, nt, [], fb⟩ := fun ρ w N M p hp => (mem_lOf.1 hp).1
  have noFin : ∀ (E : Ent) (Q : Exit → St → Prop), (∀ s, ¬ Q .outgrown s) → ∀ a w, ¬ conc E (.fin Q) .outgrown a w := by
    rintro E Q h a w ⟨s, _, h2⟩; exact h s h2
  refine roundIn_of_wpIn trivial ?_
  have r0 : Rel ⟨P, Gl, w, N, mOf ρ H, lOf ρ nx0, nt, [], fb⟩ ⟨putF ps az F0, H, nx⟩ ρ N { tmps := (ps.zip vs).foldl (fun t (p : Nat × Value) => t.setIfInBounds p.1 p.2) tm, defers := [] } w :=
    View.rel (a := { tmps := (ps.zip vs).foldl (fun t (p : Nat × Value) => t.setIfInBounds p.1 p.2) tm, defers := [] }) vr hfb (fun id seg b h1 h2 => mem_mOf.2 ⟨id, seg, h1, h2⟩) (fun p hp => (mem_lOf.1 hp).2) (hsz.trans hnt) rfl
  have hwA := cwp_soundIn hm (some l) 0 A' _ _ w (.inr hrA) (noFin _ _ (fun s h => by cases h.1)) (hA _ ⟨rfl, rfl, rfl, lD _ _ _ _⟩ _ w ⟨ρ, N, r0⟩)
  refine wpIn_mono hwA ?_
  rintro e1 a1 w1 ⟨s1, ⟨ρ1, N1, r1⟩, rfl, hB⟩
  simp only [Exit.then]
  have g1 := Stg.of (l := l) hidk v r1
  have hne : ∀ b, (∃ id seg, lkf H id = some seg ∧ ρ id = some (some b)) → b ≠ l := by
    rintro b ⟨id, seg, h1, h2⟩ rfl
    obtain ⟨c, T, f, h⟩ := v.blk h1 h2
    rw [hl] at h; cases h
  have hlt : l < w.heap.size := (Array.getElem?_eq_some_iff.1 hl).1
  have hl1 : w1.heap[l]? = some (.loop rc) := (r1.ext l hlt fun h => hne l (mem_mOf.1 h) rfl).trans hl
  have hN1 : ¬ N1 l := by
    intro h
    rcases g1.fr l h with h | ⟨_, h | h⟩
    · exact hN h
    · omega
    · exact hne l h rfl
  refine ⟨_, run_beginRound hl1 hrc, ?_⟩
  have st1 := Stp.putObj (Obj.loop { rc with state := .busy }) hl1 (by simp)
  have g2 := g1.put { rc with state := .busy } hl1 hN1
  have v2 := r1.view.step st1 (fun b hb e => hN1 (e ▸ hb)) (fun id seg b h1 h2 e => by
    obtain ⟨c, T, f, h⟩ := r1.view.blk h1 h2
    rw [e, hl1] at h; cases h)
  have r2 : Rel ⟨P, Gl, w1.putObj l (.loop { rc with state := .busy }), N1, mOf ρ1 s1.H, lOf ρ1 nx0, nt, [], fb⟩ s1 ρ1 N1 a1 (w1.putObj l (.loop { rc with state := .busy })) :=
    v2.rel (by rw [World.putObj_size]; exact Nat.le_trans hfb r1.lo) (fun id seg b h1 h2 => mem_mOf.2 ⟨id, seg, h1, h2⟩) (fun p hp => (mem_lOf.1 hp).2) r1.sz r1.df
  have hwB := cwp_soundIn hm (some l) 0 B' _ _ _ (.inr hrB) (noFin _ _ (fun s h => by rcases he with ⟨rfl, _⟩ | ⟨rfl, _⟩ | ⟨id, rfl, _⟩ <;> cases h.1)) (hB _ ⟨rfl, rfl, rfl, lD _ _ _ _⟩ a1 _ ⟨ρ1, N1, r2⟩)
  refine wpIn_mono hwB ?_
  rintro e3 a3 w3 ⟨s3, hg3, rfl, hwk⟩
  obtain ⟨ρ3, N3, r3⟩ := hwk _ ⟨rfl, rfl, rfl, lD _ _ _ _⟩ a3 w3 hg3
  have g3 := Stg.of (l := l) hidk g2.view r3
  have hlt1 : l < w1.heap.size := (Array.getElem?_eq_some_iff.1 hl1).1
  have hne1 : ∀ b, (∃ id seg, lkf s1.H id = some seg ∧ ρ1 id = some (some b)) → b ≠ l := by
    rintro b ⟨id, seg, h1, h2⟩ rfl
    obtain ⟨c, T, f, h⟩ := r1.view.blk h1 h2
    rw [hl1] at h; cases h
  have hl3 : w3.heap[l]? = some (.loop { rc with state := .busy }) := (r3.ext l (by rw [World.putObj_size]; exact hlt1) fun h => hne1 l (mem_mOf.1 h) rfl).trans (World.putObj_heap_same hlt1)
  refine roundPost_of hl3 j he (hR ρ3 N3 _ w3 _ (g2.trans g3) hl3 rfl)
end Go.Lv
namespace Go.Lv
open Go
theorem cOp_clz {d : Option Tmp} {op : Op} {t : Nat} {x : X} (h : cOp d op = some (.clz t x)) : d = none ∧ ∃ x', op = .call ⟨.builtin .clear, #[x'], #[t]⟩ ∧ cX x' = x := by
  cases op <;> cases d <;> simp [cOp] at h
  · obtain ⟨t', x', e, y, rfl, rfl⟩ := clzO_is h
    cases e
    exact ⟨rfl, y, rfl, rfl⟩
  · rename_i c d; obtain ⟨ce, az, ts⟩ := c; cases ce <;> simp at h
    unfold cBlt at h; split at h <;> simp at h
section
variable {E : Ent} {s : St} {ρ : Nat → Option (Option Nat)} {N : Nat → Prop} {a : Act} {w : World}
theorem xClr1 (r : Rel E s ρ N a w) {t e ty : TypeId} {id off z : Nat} {vx : Value} {seg : Seg} (hd : (tiOf E.P t).d = .sl e) (hzk : (tiOf E.P e).zok = true) (hpos : 0 < (tiOf E.P e).size) (hz : z = (tiOf E.P e).size)
    (hx : G (.sl id off 1 z) (E.cx w N ρ) vx) (hs : lkf s.H id = some seg) (hfit : off + z ≤ seg.cells.length) :
    ∃ w', (Builtin.clear_ #[t] ty #[vx]).run E.P w = .ok (.tuple #[]) w' ∧
      Rel E { s with H := (id, ⟨spl seg.cells off (tiOf E.P e).zero, seg.fr⟩) :: ers s.H id } ρ N a w' := by
  subst hz
  obtain ⟨i, zv, k1, k2, k3, k4, k5, k6, k7⟩ := ti_zero hzk
  have hu := und_sl hd
  have hz1 : (Builtin.zeroCells zv.cells 1).toList = zv.cells.toList := by
    apply List.ext_getElem
    · simp [Builtin.zeroCells]
    · intro j h1 h2
      have hj : j < zv.cells.size := by simpa using h2
      simp only [Builtin.zeroCells, Array.getElem_toList, Array.getElem_map, Array.getElem_range, Nat.mod_eq_of_lt hj]
      exact getElem!_pos zv.cells j hj
  have gz : GL (tiOf E.P e).zero (E.cx w N ρ) zv.cells.toList := by rw [k6]; exact GL_ofC1 (E.cx w N ρ) zv.cells.toList
  have hzl : (tiOf E.P e).zero.length = (tiOf E.P e).size := by rw [k6, List.length_map, Array.length_toList, k3, k4]
  simp only [G] at hx
  rcases r.hp id seg hs with ⟨q1, q2⟩ | ⟨b', cur, T', q1, q2, q3⟩
  · rw [q2] at hfit; simp at hfit; omega
  · rcases hx with ⟨p1, p2, rfl⟩ | ⟨b, o, c0, cells, T, fz, p1, p2, p3, p4, p5, rfl⟩
    · rw [q1] at p1; cases p1
    · rw [q1] at p1; cases p1
      have ho : o = off := by rcases p4 with h | h <;> omega
      subst ho
      obtain ⟨m1, m2⟩ := r.lay hs q1 q2 gz k7 (off := o) (by rw [hzl]; exact hfit)
      refine ⟨_, ?_, m2⟩
      simp [Builtin.clear_, run_underlying hu, typeInfo, zeroValue, k1, k2, hz1, m1]
end
theorem AW_clz {κ : Kt} {l : List C} {k : Stk} {s : St} {t e id off z : Nat} {x : X} {seg : Seg}
    (hx : evx κ.Gl s.F x = .sl id off 1 z) (ht : (tiOf κ.P t).d = .sl e) (hzk : (tiOf κ.P e).zok = true) (hpos : 0 < (tiOf κ.P e).size) (hz : z = (tiOf κ.P e).size)
    (hs : lkf s.H id = some seg) (hfit : off + z ≤ seg.cells.length)
    (h : AW κ l k ⟨s.F, (id, ⟨spl seg.cells off (tiOf κ.P e).zero, seg.fr⟩) :: ers s.H id, s.nx⟩) : AW κ (.o (.clz t x) :: l) k s := by
  refine AW_o fun E hE ρ N a w r => ?_
  have hP := hE.P.symm
  have hG := hE.Gl.symm
  refine opW_of rfl fun o hc => ?_
  obtain ⟨dst, op, ty, pos, after, guard⟩ := o
  obtain ⟨rfl, x', rfl, rfl⟩ := cOp_clz hc
  rw [hP] at ht hzk hpos hz h
  rw [hG] at hx
  have gx := evx_sound r x'
  rw [hx] at gx
  obtain ⟨w', k1, k2⟩ := xClr1 r (ty := ty) ht hzk hpos hz gx hs hfit
  refine ⟨.tuple #[], w', .inl ?_, ?_⟩
  · simp only [execOp, resolve, Sem.run_bind, Sem.run_pure, Result.andThen_ok, invoke, builtin, List.map_toArray, List.map_cons, List.map_nil]
    rw [k1]; rfl
  · exact h E hE _ _ ⟨ρ, N, k2⟩
end Go.Lv
namespace Go.Lv
open Go
def IterAW (P : Program) (Gl : List (Nat × List AV)) (n nt : Nat) (az : List AV) (H : List (Nat × Seg)) (nx : Nat) (L0 L1 : Ent → Prop) : Prop :=
  ∃ fn c Ct, P.funcs[n]? = some fn ∧ fn.body = some c ∧ (fn.name == "runtime.NumGoroutine") = false ∧ fn.results.toList.map cRS = [] ∧ fn.ntmps = nt ∧ az.length ≤ nt ∧
    AW ⟨P, Gl, Ct, nt, L0⟩ (cc c) (.raw (endW P Gl nt L1)) ⟨z2 0 az, H, nx⟩
def IterOK (P : Program) (Gl : List (Nat × List AV)) (n nt : Nat) (az : List AV) (H : List (Nat × Seg)) (nx m : Nat) (args : Nat → List AV) (stop : Bool) : Prop :=
  ∀ (yl : Nat) (Ls : Nat → Ent → Prop), (∀ i E, Ls i E → E.L = []) → (∀ i, i < m → YH P Gl nt (Ls i) yl (Ls (i + 1)) (args i) true) → (stop = true → YH P Gl nt (Ls m) yl (Ls (m + 1)) (args m) false) →
    IterAW P Gl n nt (.fn (.yield yl) [] [] :: az) H nx (Ls 0) (Ls (if stop then m + 1 else m))
theorem IterAW_cc {P : Program} {Gl : List (Nat × List AV)} (Ct : List (Nat × (List AV → R))) {n nt : Nat} {fn : Func} {l : List C} {az : List AV} {H : List (Nat × Seg)} {nx : Nat} {L0 L1 : Ent → Prop}
    (hf : P.funcs[n]? = some fn) (hname : (fn.name == "runtime.NumGoroutine") = false) (hl : fn.body.map cc = some l) (hrs : fn.results.toList.map cRS = []) (hnt : fn.ntmps = nt) (hlen : az.length ≤ nt)
    (h : AW ⟨P, Gl, Ct, nt, L0⟩ l (.raw (endW P Gl nt L1)) ⟨z2 0 az, H, nx⟩) : IterAW P Gl n nt az H nx L0 L1 := by
  cases hb : fn.body with
  | none => rw [hb] at hl; cases hl
  | some c =>
    rw [hb] at hl
    obtain rfl : cc c = l := by simpa using hl
    exact ⟨fn, c, Ct, hf, hb, hname, hrs, hnt, hlen, h⟩
structure OL (E : Ent) (H : List (Nat × Seg)) (ρ : Nat → Option (Option Nat)) (N : Nat → Prop) (w : World) : Prop where
  stp : Stp (· ∈ E.M) E.w0 w
  N0 : ∀ b, E.N0 b → N b
  Nfr : ∀ b, N b → E.N0 b ∨ (E.fb ≤ b ∧ (E.w0.heap.size ≤ b ∨ b ∈ E.M))
  own : ∀ id seg b, lkf H id = some seg → ρ id = some (some b) → E.w0.heap.size ≤ b ∨ b ∈ E.M
  ln : ∀ p ∈ E.L, ρ p.1 = some p.2
structure LI (E : Ent) (F0 : List (Nat × AV)) (tm : Array Value) (nx0 l D : Nat) (H : List (Nat × Seg)) (nx : Nat) (rc : Loop) (E' : Ent) (ρ : Nat → Option (Option Nat)) (N : Nat → Prop) : Prop where
  L : E'.L = []
  ds : E'.ds = []
  fb : E'.fb = E.fb
  view : View E.Gl E.fb ⟨F0, H, nx⟩ ρ N tm E'.w0
  ol : OL E H ρ N E'.w0
  rcd : E'.w0.heap[l]? = some (.loop rc)
  dl : E'.w0.heap[D]? = some (.deferred (some []))
  dO : E.w0.heap.size ≤ D
  nN : ∀ b, E'.N0 b → b < E'.w0.heap.size
  dN : ∀ b, E'.N0 b → ∀ id seg, lkf H id = some seg → ρ id ≠ some (some b)
  dM : ∀ b, b ∈ E'.M → ¬ N b ∧ b ≠ l ∧ b ≠ D ∧ b < E'.w0.heap.size ∧ (∀ id seg, lkf H id = some seg → ρ id ≠ some (some b)) ∧ (E.w0.heap.size ≤ b ∨ b ∈ E.M)
  nl : ¬ E'.N0 l ∧ ¬ E'.N0 D ∧ ¬ N l ∧ ¬ N D
  N0fr : ∀ b, E'.N0 b → E.N0 b ∨ (E.fb ≤ b ∧ (E.w0.heap.size ≤ b ∨ b ∈ E.M))
  nxl : nx0 ≤ nx
  lD : l ≠ D
  lO : E.w0.heap.size ≤ l
theorem LI.on {E : Ent} {F0 : List (Nat × AV)} {tm : Array Value} {nx0 l D : Nat} {H : List (Nat × Seg)} {nx : Nat} {rc : Loop} {E' : Ent} {ρ : Nat → Option (Option Nat)} {N : Nat → Prop} (h : LI E F0 tm nx0 l D H nx rc E' ρ N)
    {s : St} {ρi : Nat → Option (Option Nat)} {Ni : Nat → Prop} {a : Act} {w : World} (r : Rel E' s ρi Ni a w) :
    View E.Gl E.fb ⟨F0, H, nx⟩ ρ (fun b => N b ∨ Ni b) tm w ∧ OL E H ρ (fun b => N b ∨ Ni b) w ∧ w.heap[l]? = some (.loop rc) ∧ w.heap[D]? = some (.deferred (some [])) ∧
      (¬ Ni l ∧ ¬ Ni D) ∧ (∀ b, Ni b → ∀ id seg, lkf H id = some seg → ρ id ≠ some (some b)) ∧
      (∀ b, b ∈ mOf ρi s.H → ¬ (N b ∨ Ni b) ∧ b ≠ l ∧ b ≠ D ∧ b < w.heap.size ∧ (∀ id seg, lkf H id = some seg → ρ id ≠ some (some b)) ∧ (E.w0.heap.size ≤ b ∨ b ∈ E.M)) ∧
      (∀ b, Ni b → E.N0 b ∨ (E.fb ≤ b ∧ (E.w0.heap.size ≤ b ∨ b ∈ E.M))) := by
  have hlt : ∀ {b : Nat} {o : Obj}, E'.w0.heap[b]? = some o → b < E'.w0.heap.size := fun h => (Array.getElem?_eq_some_iff.1 h).1
  have hbl : ∀ id seg b, lkf H id = some seg → ρ id = some (some b) → b < E'.w0.heap.size ∧ b ∉ E'.M := fun id seg b h1 h2 => ⟨h.view.blt h1 h2, fun hm => (h.dM b hm).2.2.2.2.1 id seg h1 h2⟩
  have hNi : ∀ b, Ni b → b < E'.w0.heap.size → b ∉ E'.M → E'.N0 b := by
    intro b hb h1 h2
    rcases r.Nfr b hb with h3 | ⟨_, h3 | h3⟩
    · exact h3
    · omega
    · exact absurd h3 h2
  have hlM : l ∉ E'.M := fun hm => (h.dM l hm).2.1 rfl
  have hDM : D ∉ E'.M := fun hm => (h.dM D hm).2.2.1 rfl
  have hnl : ¬ Ni l := fun hb => h.nl.1 (hNi l hb (hlt h.rcd) hlM)
  have hnD : ¬ Ni D := fun hb => h.nl.2.1 (hNi D hb (hlt h.dl) hDM)
  have hdN : ∀ b, Ni b → ∀ id seg, lkf H id = some seg → ρ id ≠ some (some b) := fun b hb id seg h1 h2 => h.dN b (hNi b hb (hbl id seg b h1 h2).1 (hbl id seg b h1 h2).2) id seg h1 h2
  have hfr : ∀ b, Ni b → E.N0 b ∨ (E.fb ≤ b ∧ (E.w0.heap.size ≤ b ∨ b ∈ E.M)) := by
    intro b hb
    rcases r.Nfr b hb with h3 | ⟨h2, h3 | h3⟩
    · exact h.N0fr b h3
    · exact .inr ⟨h.fb ▸ h2, .inl (Nat.le_trans h.ol.stp.lo h3)⟩
    · exact .inr ⟨h.fb ▸ h2, (h.dM b h3).2.2.2.2.2⟩
  have v1 : View E.Gl E.fb ⟨F0, H, nx⟩ ρ N tm w := h.view.step r.stp (fun b hb hm => (h.dM b hm).1 hb) (fun id seg b h1 h2 => (hbl id seg b h1 h2).2)
  refine ⟨v1.more (fun b hb => .inl hb) (fun b hb => hb.elim (v1.Nlt b) (r.Nlt b)) (fun id seg b h1 h2 hb => hb.elim (v1.own id seg b h1 h2).1 fun hb => hdN b hb id seg h1 h2), ⟨?_, fun b hb => .inl (h.ol.N0 b hb), fun b hb => hb.elim (h.ol.Nfr b) (hfr b), h.ol.own, h.ol.ln⟩,
    (r.ext l (hlt h.rcd) hlM).trans h.rcd, (r.ext D (hlt h.dl) hDM).trans h.dl, ⟨hnl, hnD⟩, hdN, ?_, hfr⟩
  · refine (h.ol.stp.trans r.stp).weak fun b hb q => ?_
    rcases q with q | q
    · exact q
    · rcases (h.dM b q).2.2.2.2.2 with q | q
      · omega
      · exact q
  · intro b hb
    obtain ⟨id, seg, h1, h2⟩ := mem_mOf.1 hb
    obtain ⟨o1, o2, o3⟩ := r.own id seg b h1 h2
    obtain ⟨c, T, f, hc⟩ := r.view.blk h1 h2
    have hl' := (r.ext l (hlt h.rcd) hlM).trans h.rcd
    have hD' := (r.ext D (hlt h.dl) hDM).trans h.dl
    refine ⟨fun q => ?_, fun e => ?_, fun e => ?_, (Array.getElem?_eq_some_iff.1 hc).1, fun id' seg' h3 h4 => ?_, ?_⟩
    · rcases q with q | q
      · rcases o2 with o2 | o2
        · have := h.view.Nlt b q; omega
        · exact (h.dM b o2).1 q
      · exact o1 q
    · rw [e, hl'] at hc; cases hc
    · rw [e, hD'] at hc; cases hc
    · rcases o2 with o2 | o2
      · have := (hbl id' seg' b h3 h4).1; omega
      · exact (hbl id' seg' b h3 h4).2 o2
    · rcases o2 with o2 | o2
      · exact .inl (Nat.le_trans h.ol.stp.lo o2)
      · exact (h.dM b o2).2.2.2.2.2
theorem LI.round {P : Program} {Ct : List (Nat × (List AV → R))} {E : Ent} {F0 : List (Nat × AV)} {tm : Array Value} {nx0 l D nt ntI : Nat} {H H' : List (Nat × Seg)} {nx nx' : Nat} {rc : Loop} {A' B' : Code} {ps : List Nat} {az : List AV} {e : Exit} (j : Option Code)
    (hP : E.P = P) (hm : P.follows .mixedOrders = true) (hrA : rdy A' = true) (hrB : rdy B' = true) (hr : RoundOK P E.Gl Ct nt nx0 (cc A') (cc B') ps F0 az H nx e H' nx')
    (he : (e = .normal ∧ j = none) ∨ (e = .ret ∧ j = some .ret) ∨ ∃ id, e = .exit id ∧ j = some (.exit id))
    (hidk : idk.idkL nx0 (F0.map Prod.snd)) (hps : ps.all (· < nt) = true) (hnt : tm.size = nt) (hla : az.length = ps.length) (hokx : okx.okxL false [] az) (hLn : ∀ p ∈ E.L, p.1 < nx0) (hnx' : nx0 ≤ nx') (hfbl : E.fb ≤ E.w0.heap.size)
    (hrc : rc.state = .ready ∧ rc.tmps = tm ∧ rc.params = ps.toArray ∧ rc.assign = A' ∧ rc.body = B') :
    YH P E.Gl ntI (fun E' => ∃ ρ N, LI E F0 tm nx0 l D H nx rc E' ρ N) l (fun E' => ∃ ρ N, LI E F0 tm nx0 l D H' nx' { rc with state := if j.isNone then .ready else .done, pending := j } E' ρ N) az j.isNone := by
  rintro E' s ρi Ni a w vs hP' hG' hnt' ⟨ρ, N, h⟩ r hg
  obtain ⟨v, ol, hl, hD, ⟨hnl, hnD⟩, hdN, hdM, hfr⟩ := h.on r
  have hlt : l < w.heap.size := (Array.getElem?_eq_some_iff.1 hl).1
  have hfb : E.fb ≤ w.heap.size := Nat.le_trans hfbl ol.stp.lo
  have hgl : GL az ⟨w, fun b => N b ∨ Ni b, fun b => E.fb ≤ b, ρ⟩ vs.toList := by
    have := GL_fw [] false az (c := E'.cx w Ni ρi) (c' := ⟨w, fun b => N b ∨ Ni b, fun b => E.fb ≤ b, ρ⟩) hokx rfl (fun b hb _ => .inr hb) (fun b hb => by simp only [Ent.cx, h.fb] at hb; exact hb) (fun j i y hj => by simp [lkf] at hj) hg
    rwa [renL_nil] at this
  have hvl := GL_length hgl
  have hys := run_yield (P := P) (args := vs) hl (by rw [hrc.2.2.1]; exact hvl.symm.trans hla)
  obtain ⟨q1, q2, q3, q4, q5⟩ := hrc
  have ez : ((rc.params.zip vs).foldl (fun t (p : Tmp × Value) => t.setIfInBounds p.1 p.2) rc.tmps) = ((ps.zip vs.toList).foldl (fun t (p : Nat × Value) => t.setIfInBounds p.1 p.2) tm) := by
    rw [← Array.foldl_toList, q2, q3, Array.toList_zip]
  refine ⟨_, _, _, _, hys, ?_⟩
  have hN : ¬ (N l ∨ Ni l) := fun q => q.elim h.nl.2.2.1 hnl
  rw [ez]
  subst q4 q5
  refine round_run (Ct := Ct) j hm hrA hrB hr he hidk hps hnt hfb hla v hgl hl q1 hN ?_
  intro ρ' N' O' w' rc0 g hl0 erc
  refine ⟨rfl, ?_⟩
  subst erc
  -- the world behind the round
  have hO : ∀ b, O' b → b ≠ l := by
    rintro b hb rfl
    obtain ⟨c, T, f, hc⟩ := g.oc b hb
    rw [hl0] at hc; cases hc
  have hNl : ¬ N' l := by
    intro q
    rcases g.fr l q with q | ⟨_, q | ⟨id, seg, q1, q2⟩⟩
    · exact hN q
    · omega
    · obtain ⟨c, T, f, hc⟩ := v.blk q1 q2
      rw [hl] at hc; cases hc
  have g2 := g.put { state := if j.isNone then LoopState.ready else .done, pending := j, fn := rc.fn, tmps := rc.tmps, params := rc.params, assign := rc.assign, body := rc.body, defers := rc.defers } hl0 hNl
  obtain ⟨w3, hw3⟩ : ∃ w3, w3 = w'.putObj l (.loop { state := if j.isNone then LoopState.ready else .done, pending := j, fn := rc.fn, tmps := rc.tmps, params := rc.params, assign := rc.assign, body := rc.body, defers := rc.defers }) := ⟨_, rfl⟩
  have hlt0 : l < w'.heap.size := (Array.getElem?_eq_some_iff.1 hl0).1
  have hl3 : w3.heap[l]? = some (.loop { state := if j.isNone then LoopState.ready else .done, pending := j, fn := rc.fn, tmps := rc.tmps, params := rc.params, assign := rc.assign, body := rc.body, defers := rc.defers }) := by rw [hw3]; exact World.putObj_heap_same hlt0
  show ∃ E' N', _ ∧ _ ∧ _ ∧ _ ∧ Rel E' s ρi N' a (w'.putObj l (.loop { state := if j.isNone then LoopState.ready else .done, pending := j, fn := rc.fn, tmps := rc.tmps, params := rc.params, assign := rc.assign, body := rc.body, defers := rc.defers }))
  rw [← hw3] at g2 ⊢
  have hDO : ¬ (∃ id seg, lkf H id = some seg ∧ ρ id = some (some D)) := by
    rintro ⟨id, seg, h1, h2⟩
    obtain ⟨c, T, f, hc⟩ := v.blk h1 h2
    rw [hD] at hc; cases hc
  have hD3 : w3.heap[D]? = some (.deferred (some [])) := (g2.stp.ext D (Array.getElem?_eq_some_iff.1 hD).1 (fun q => q.elim hDO fun q => h.lD q.symm)).trans hD
  have hO2 : ∀ b, O' b → w.heap.size ≤ b ∨ ∃ id seg, lkf H id = some seg ∧ ρ id = some (some b) := g2.ol
  -- the iterator's own view
  have vi : View E'.Gl E'.fb s ρi Ni a.tmps w3 := by
    refine r.view.step g2.stp (fun b hb q => ?_) fun id seg b h1 h2 q => ?_
    · rcases q with ⟨id, seg, q1, q2⟩ | rfl
      · exact hdN b hb id seg q1 q2
      · exact hnl hb
    · have hm := hdM b (mem_mOf.2 ⟨id, seg, h1, h2⟩)
      rcases q with ⟨id', seg', q1, q2⟩ | rfl
      · exact hm.2.2.2.2.1 id' seg' q1 q2
      · exact hm.2.1 rfl
  have ri : Rel ⟨P, E.Gl, w3, Ni, mOf ρi s.H, [], ntI, [], E.fb⟩ s ρi Ni a w3 := by
    refine View.rel (P := P) (fb := E.fb) (by rw [← hG', ← h.fb]; exact vi) (Nat.le_trans hfb g2.stp.lo) (fun id seg b h1 h2 => mem_mOf.2 ⟨id, seg, h1, h2⟩) (fun p hp => by cases hp) (r.sz.trans hnt') (r.df.trans h.ds)
  refine ⟨⟨P, E.Gl, w3, Ni, mOf ρi s.H, [], ntI, [], E.fb⟩, Ni, rfl, rfl, rfl, ⟨ρ', N', ?_⟩, ri⟩
  refine ⟨rfl, rfl, rfl, g2.view, ⟨?_, fun b hb => g2.le b (ol.N0 b hb), ?_, ?_, fun p hp => g2.ρ p.1 p.2 (hLn p hp) (ol.ln p hp)⟩, hl3, hD3, h.dO, fun b hb => Nat.lt_of_lt_of_le (r.Nlt b hb) g2.stp.lo, ?_, ?_, ⟨hnl, hnD, hNl, ?_⟩, hfr, hnx', h.lD, h.lO⟩
  · refine (ol.stp.trans g2.stp).weak fun b hb q => ?_
    rcases q with q | ⟨id, seg, q1, q2⟩ | rfl
    · exact q
    · rcases ol.own id seg b q1 q2 with q | q
      · omega
      · exact q
    · have := h.lO; omega
  · intro b hb
    rcases g2.fr b hb with q | ⟨q1, q | ⟨id, seg, q2, q3⟩⟩
    · exact ol.Nfr b q
    · exact .inr ⟨q1, .inl (Nat.le_trans ol.stp.lo q)⟩
    · exact .inr ⟨q1, ol.own id seg b q2 q3⟩
  · intro id seg b h1 h2
    rcases hO2 b (g2.own id seg b h1 h2) with q | ⟨id', seg', q1, q2⟩
    · exact .inl (Nat.le_trans ol.stp.lo q)
    · exact ol.own id' seg' b q1 q2
  · intro b hb id seg h1 h2
    exact g2.no b (g2.own id seg b h1 h2) (g2.le b (.inr hb))
  · intro b hb
    obtain ⟨m1, m2, m3, m4, m5, m6⟩ := hdM b hb
    refine ⟨fun q => ?_, m2, m3, Nat.lt_of_lt_of_le m4 g2.stp.lo, fun id seg h1 h2 => ?_, m6⟩
    · rcases g2.fr b q with q | ⟨_, q | ⟨id, seg, q1, q2⟩⟩
      · exact m1 q
      · omega
      · exact m5 id seg q1 q2
    · rcases hO2 b (g2.own id seg b h1 h2) with q | ⟨id', seg', q1, q2⟩
      · omega
      · exact m5 id' seg' q1 q2
  · intro q
    rcases g2.fr D q with q | ⟨_, q | q⟩
    · exact q.elim h.nl.2.2.2 hnD
    · have := (Array.getElem?_eq_some_iff.1 hD).1; omega
    · exact hDO q
end Go.Lv
namespace Go.Lv
open Go
structure Link (E0 E : Ent) : Prop where
  fb : E.fb = E0.fb
  P : E.P = E0.P
  Gl : E.Gl = E0.Gl
  nt : E.nt = E0.nt
  L : E.L = E0.L
  stp : Stp (· ∈ E0.M) E0.w0 E.w0
  N0 : ∀ b, E0.N0 b → E.N0 b
  Nfr : ∀ b, E.N0 b → E0.N0 b ∨ (E0.fb ≤ b ∧ (E0.w0.heap.size ≤ b ∨ b ∈ E0.M))
  M : ∀ b, b ∈ E.M → E0.w0.heap.size ≤ b ∨ b ∈ E0.M
  fbl : E0.fb ≤ E0.w0.heap.size
  D : ∃ D, E.ds = [{ target := .collected D, args := #[] }] ∧ E.w0.heap[D]? = some (.deferred (some [])) ∧ E0.w0.heap.size ≤ D ∧ D ∉ E.M ∧ ¬ E.N0 D
theorem Link.rel {E0 E : Ent} (h : Link E0 E) {s : St} {ρ : Nat → Option (Option Nat)} {N : Nat → Prop} {a : Act} {w : World} (r : Rel E s ρ N a w) :
    ∃ D, Rel { E0 with ds := [{ target := .collected D, args := #[] }] } s ρ N a w ∧ w.heap[D]? = some (.deferred (some [])) ∧ E0.w0.heap.size ≤ D ∧ ¬ N D := by
  obtain ⟨D, d1, d2, d3, d4, d5⟩ := h.D
  have hDl : D < E.w0.heap.size := (Array.getElem?_eq_some_iff.1 d2).1
  have hlo := h.stp.lo
  have ec : ∀ w N ρ, E.cx w N ρ = E0.cx w N ρ := fun w N ρ => by simp only [Ent.cx, h.fb]
  refine ⟨D, ⟨r.Nlt, fun b hb => r.N0 b (h.N0 b hb), ?_, ?_, ?_, ?_, ?_, r.inj, r.nx, Nat.le_trans hlo r.lo, ?_, r.os.trans h.stp.os, r.tape.trans h.stp.tape, r.output.trans h.stp.output, r.df.trans d1, r.sz.trans h.nt, ?_, ?_, h.fbl⟩, (r.ext D hDl d4).trans d2, d3, ?_⟩
  · intro b hb
    rcases r.Nfr b hb with q | ⟨q1, q2 | q2⟩
    · exact h.Nfr b q
    · exact .inr ⟨h.fb ▸ q1, .inl (Nat.le_trans hlo q2)⟩
    · exact .inr ⟨h.fb ▸ q1, h.M b q2⟩
  · intro g cs hg
    have := r.glob g cs (by rw [h.Gl]; exact hg)
    rw [ec] at this; exact this
  · intro t; have := r.fr t; rw [ec] at this; exact this
  · have := r.hp; rw [ec] at this; exact this
  · intro id seg b h1 h2
    obtain ⟨o1, o2, o3⟩ := r.own id seg b h1 h2
    exact ⟨o1, o2.elim (fun q => .inl (Nat.le_trans hlo q)) (h.M b), fun q => h.fb ▸ o3 q⟩
  · intro b hb hM
    have hb : b < E0.w0.heap.size := hb
    exact (r.ext b (Nat.lt_of_lt_of_le hb hlo) fun q => (h.M b q).elim (fun q => by omega) hM).trans (h.stp.ext b hb hM)
  · intro p hp; exact r.ln p (by rw [h.L]; exact hp)
  · intro b c T f hb
    obtain ⟨c1, T1, f1, e1, e2⟩ := h.stp.sz b c T f hb
    obtain ⟨c2, T2, f2, e3, e4⟩ := r.s0 b c1 T1 f1 e1
    exact ⟨c2, T2, f2, e3, e4.trans e2⟩
  · intro q
    rcases r.Nfr D q with q | ⟨_, q | q⟩
    · exact d5 q
    · omega
    · exact d4 q
def lentE (dom : List Nat) (E0 : Ent) (E : Ent) : Prop := lentD dom E ∧ E = E0 ∧ E.ds = []
def lentA (dom : List Nat) (E0 : Ent) (E : Ent) : Prop := lentD dom E ∧ Link E0 E
def jcode : Option Exit → List C → List C
  | none, l => l
  | some .ret, _ => [.ret]
  | some (.exit id), _ => [.ex id]
  | _, _ => [.bad]
attribute [go_sem] jcode
def jok : Option Exit → Prop
  | none => True
  | some .ret => True
  | some (.exit _) => True
  | _ => False
def jCode : Option Exit → Option Code
  | some .ret => some .ret
  | some (.exit id) => some (.exit id)
  | _ => none
theorem lkd_id {m : List (Nat × Nat)} (hm : ∀ p ∈ m, p.1 = p.2) (id : Nat) : lkd id m id = id := by
  induction m with
  | nil => rfl
  | cons p r ih =>
    obtain ⟨j, i⟩ := p
    simp only [lkd]
    cases hb : Nat.beq j id with
    | true => have := Nat.eq_of_beq_eq_true hb; subst this; simp only [cond_true]; exact (hm _ (List.mem_cons_self ..)).symm
    | false => simp only [cond_false]; exact ih fun p hp => hm p (List.mem_cons_of_mem _ hp)
mutual
theorem ren_id {m : List (Nat × Nat)} (hm : ∀ p ∈ m, p.1 = p.2) : ∀ (x : AV), ren m x = x
  | .ptr _ _ => by simp only [ren, lkd_id hm]
  | .sl _ _ _ _ => by simp only [ren, lkd_id hm]
  | .rop fr cs => by simp only [ren, renL_id hm cs]
  | .ros fr n cs => by simp only [ren, renL_id hm cs]
  | .agg cs => by simp only [ren, renL_id hm cs]
  | .tup cs => by simp only [ren, renL_id hm cs]
  | .fn f fs cs => by simp only [ren, renL_id hm fs, renL_id hm cs]
  | .ifc t x => by simp only [ren, ren_id hm x]
  | .i _ | .u8 _ | .u16 _ | .u32 _ | .u64 _ | .b _ | .s _ | .nilp | .nils | .nilfn | .nilif | .junk => rfl
theorem renL_id {m : List (Nat × Nat)} (hm : ∀ p ∈ m, p.1 = p.2) : ∀ (xs : List AV), ren.renL m xs = xs
  | [] => rfl
  | x :: xs => by simp only [ren.renL, ren_id hm x, renL_id hm xs]
end
theorem lkf_appl {α : Type} {A B : List (Nat × α)} {i : Nat} {v : α} (h : lkf A i = some v) : lkf (A ++ B) i = some v := by rw [lkf_app, h]; rfl
theorem lkf_appr {α : Type} {A B : List (Nat × α)} (hd : A.all (fun p => (lkf B p.1).isNone) = true) {i : Nat} {v : α} (h : lkf B i = some v) : lkf A i = none ∧ lkf (A ++ B) i = some v := by
  have : lkf A i = none := by
    cases ha : lkf A i with
    | none => rfl
    | some u =>
      have := List.all_eq_true.1 hd _ (lkf_mem ha)
      simp [h] at this
  exact ⟨this, by rw [lkf_app, this, h]; rfl⟩
theorem AW_rf {P : Program} {Gl : List (Nat × List AV)} {Ct Cr Cx : List (Nat × (List AV → R))} {nt nx0 n ntI nxI m : Nat} {E0 : Ent} {dom : List Nat} {f : X} {ps : List Nat} {A B l : List C} {k : Stk} {F0 : List (Nat × AV)} {H0 Hm : List (Nat × Seg)} {cs : List AV}
    (mI : List (Nat × Nat)) (args : Nat → List AV) (H : Nat → List (Nat × Seg)) (nxs : Nat → Nat) (j : Option Exit) (hj : jok j)
    (hm : P.follows .mixedOrders = true) (hf : evx Gl F0 f = .fn (.func n) [] cs) (hit : IterOK P Gl n ntI cs Hm nxI m args j.isSome)
    (hmI : mI.all (fun p => p.1 == p.2 && decide (p.1 < nxI)) = true) (hHm : Hm.all (fun p => (lkf mI p.1).isSome) = true) (hcs : okx.okxL false mI cs) (hHc : okH false mI Hm)
    (hmk : mI.all (fun p => (lkf Hm p.1).isSome) = true)
    (hdj : H0.all (fun p => (lkf Hm p.1).isNone) = true)
    (hidk : idk.idkL nx0 (F0.map Prod.snd)) (hps : ps.all (· < nt) = true) (hla : ∀ i, i < m + 1 → (args i).length = ps.length) (hokx : ∀ i, i < m + 1 → okx.okxL false [] (args i))
    (h00 : H 0 = H0) (hn0 : nxs 0 = nx0) (hnx : ∀ i, nx0 ≤ nxs i)
    (hround : ∀ i, i < m → RoundOK P Gl Cr nt nx0 A B ps F0 (args i) (H i) (nxs i) .normal (H (i + 1)) (nxs (i + 1)))
    (hlast : ∀ e, j = some e → RoundOK P Gl Cr nt nx0 A B ps F0 (args m) (H m) (nxs m) e (H (m + 1)) (nxs (m + 1)))
    (hk : opn k = true) (hdom : ∀ i ∈ dom, i < nx0)
    (h : AW ⟨P, Gl, Cx, nt, lentA dom E0⟩ (jcode j l) k ⟨F0, H (if j.isSome then m + 1 else m), nxs (if j.isSome then m + 1 else m)⟩) :
    AW ⟨P, Gl, Ct, nt, lentE dom E0⟩ (.rf f ps A B :: l) k ⟨F0, H0 ++ Hm, nx0⟩ := by
  intro E hE a w ⟨ρ, N, r⟩
  have hP : E.P = P := hE.P
  have hG : E.Gl = Gl := hE.Gl
  have hnt : E.nt = nt := hE.nt
  obtain ⟨hLd, rfl, hds⟩ : lentE dom E0 E := hE.lent
  have hLn : ∀ p ∈ E.L, p.1 < nx0 := fun p hp => hdom _ (hLd p hp)
  simp only [cwp, cw1]
  intro f' A' B' e1 e2 e3 hrA hrB
  subst e1 e2 e3
  have gf := evx_sound r f'
  rw [hG, hf] at gf
  simp only [G] at gf
  obtain ⟨v1, v2, ef, ef2, ef3⟩ := gf
  obtain rfl : v1 = #[] := by simpa [GL] using ef2
  -- the world as the loop begins
  obtain ⟨W, hW⟩ : ∃ W : Code → World, W = fun _ => w := ⟨_, rfl⟩
  refine (wpIn_wide (n := 1)).1 (wpIn_rangeFunc fun fn _ => ?_)
  obtain ⟨rc, hrc⟩ : ∃ rc : Loop, rc = { state := .ready, pending := none, fn := fn, tmps := a.tmps, params := ps.toArray, assign := A', body := B', defers := w.heap.size } := ⟨_, rfl⟩
  obtain ⟨w1, hw1⟩ : ∃ w1, w1 = (w.alloc (.deferred (some []))).alloc (.loop rc) := ⟨_, rfl⟩
  have hsz1 : w1.heap.size = w.heap.size + 2 := by rw [hw1]; simp
  have hl1 : w1.heap[w.heap.size + 1]? = some (.loop rc) := by
    rw [hw1]; have := World.alloc_heap_new (w.alloc (.deferred (some []))) (.loop rc); rwa [World.size_alloc] at this
  have hd1 : w1.heap[w.heap.size]? = some (.deferred (some [])) := by
    rw [hw1]; exact (heap_push_lt (by simp)).trans (World.alloc_heap_new w _)
  have st1 : Stp (fun _ => False) w w1 := by
    rw [hw1]; exact ((Stp.alloc w _).trans (Stp.alloc _ _)).weak fun b _ q => q.elim id id
  -- the iterator's entries
  let rcs : Nat → Loop := fun i => if i = m + 1 then { rc with state := .done, pending := jCode j } else rc
  let Ls : Nat → Ent → Prop := fun i E' => ∃ ρ N, LI E F0 a.tmps nx0 (w.heap.size + 1) w.heap.size (H i) (nxs i) (rcs i) E' ρ N
  have hY : ∀ i, i < m → YH P E.Gl ntI (Ls i) (w.heap.size + 1) (Ls (i + 1)) (args i) true := by
    intro i hi
    have := LI.round (ntI := ntI) (E := E) (F0 := F0) (tm := a.tmps) (l := w.heap.size + 1) (D := w.heap.size) (rc := rc) none hP hm hrA hrB (by rw [hG]; exact hround i hi) (.inl ⟨rfl, rfl⟩) hidk hps (r.sz.trans hnt) (hla i (by omega)) (hokx i (by omega)) hLn (hnx _) r.fbl (by rw [hrc]; exact ⟨rfl, rfl, rfl, rfl, rfl⟩)
    have e1 : rcs i = rc := if_neg (by omega)
    have e2 : rcs (i + 1) = { rc with state := if (none : Option Code).isNone then .ready else .done, pending := none } := by
      show (if i + 1 = m + 1 then _ else _) = _
      rw [if_neg (by omega), hrc]; rfl
    simp only [Ls, e1, e2]
    exact this
  have hYs : j.isSome = true → YH P E.Gl ntI (Ls m) (w.heap.size + 1) (Ls (m + 1)) (args m) false := by
    intro hs
    have e1 : rcs m = rc := if_neg (by omega)
    cases j with
    | none => simp at hs
    | some e =>
      have hc : ∃ c, jCode (some e) = some c ∧ ((e = .ret ∧ c = .ret) ∨ ∃ id, e = .exit id ∧ c = .exit id) := by
        cases e <;> simp [jok] at hj <;> simp [jCode]
      obtain ⟨c, hc1, hc2⟩ := hc
      have := LI.round (ntI := ntI) (E := E) (F0 := F0) (tm := a.tmps) (l := w.heap.size + 1) (D := w.heap.size) (rc := rc) (some c) hP hm hrA hrB (by rw [hG]; exact hlast e rfl) (by rcases hc2 with ⟨rfl, rfl⟩ | ⟨id, rfl, rfl⟩; exact .inr (.inl ⟨rfl, rfl⟩); exact .inr (.inr ⟨id, rfl, rfl⟩)) hidk hps (r.sz.trans hnt) (hla m (by omega)) (hokx m (by omega)) hLn (hnx _) r.fbl (by rw [hrc]; exact ⟨rfl, rfl, rfl, rfl, rfl⟩)
      have e2 : rcs (m + 1) = { rc with state := if (some c).isNone then .ready else .done, pending := some c } := by
        show (if m + 1 = m + 1 then _ else _) = _
        rw [if_pos rfl, hc1]; rfl
      simp only [Ls, e1, e2]
      exact this
  obtain ⟨fnI, cI, CtI, i1, i2, i3, i4, i5, i6, i7⟩ := hit (w.heap.size + 1) Ls (fun i E h => by obtain ⟨_, _, hLI⟩ := h; exact hLI.L) (by rw [← hG]; exact hY) (by rw [← hG]; exact hYs)
  subst i5
  have hmI' : ∀ p ∈ mI, p.1 = p.2 ∧ p.1 < nxI := fun p hp => by have := List.all_eq_true.1 hmI p hp; simpa using this
  have hid : ∀ i y, lkf mI i = some y → y = i := fun i y hy => by have := hmI' _ (lkf_mem hy); simp only at this; exact this.1.symm
  have hHm' : ∀ i g, lkf Hm i = some g → lkf mI i ≠ none := fun i g hg => by have := List.all_eq_true.1 hHm _ (lkf_mem hg); simp at this; intro q; simp [q] at this
  have hmk' : ∀ i y, lkf mI i = some y → ∃ g, lkf Hm i = some g := fun i y hy => by
    have := List.all_eq_true.1 hmk _ (lkf_mem hy)
    cases hq : lkf Hm i with
    | none => simp [hq] at this
    | some g => exact ⟨g, rfl⟩
  -- the iterator's first entry
  obtain ⟨ρi, hρi⟩ : ∃ ρi : Nat → Option (Option Nat), ρi = fun i => match lkf mI i with | some _ => ρ i | none => none := ⟨_, rfl⟩
  have hρs : ∀ i y, lkf mI i = some y → ρi i = ρ i := fun i y hy => by rw [hρi]; simp only [hy]
  have hρn : ∀ i y, ρi i = some y → ∃ z, lkf mI i = some z ∧ ρ i = some y := fun i y hy => by
    rw [hρi] at hy
    cases hq : lkf mI i with
    | none => simp [hq] at hy
    | some z => simp only [hq] at hy; exact ⟨z, rfl, hy⟩
  have v0 := r.view
  have v1' : View E.Gl E.fb ⟨F0, H0 ++ Hm, nx0⟩ ρ N a.tmps w1 := v0.step st1 (fun _ _ q => q) (fun _ _ _ _ _ q => q)
  have fw : ∀ {x : AV} {v : Value}, okx false mI x → G x ⟨w1, N, fun b => E.fb ≤ b, ρ⟩ v → G x ⟨w1, N, fun b => E.fb ≤ b, ρi⟩ v := by
    intro x v h1 h2
    have := G_fw mI false x (c := ⟨w1, N, fun b => E.fb ≤ b, ρ⟩) (c' := ⟨w1, N, fun b => E.fb ≤ b, ρi⟩) h1 rfl (fun b hb _ => hb) (fun _ hb => hb) (fun i z y h3 h4 => by rw [hid _ _ h3]; exact (hρs i z h3).trans h4) h2
    rwa [ren_id (fun p hp => (hmI' p hp).1)] at this
  have gcs : GL cs ⟨w1, N, fun b => E.fb ≤ b, ρi⟩ v2.toList := by
    have h0 : GL cs ⟨w1, N, fun b => E.fb ≤ b, ρ⟩ v2.toList := GL_mono cs (c := E.cx w N ρ) (c' := ⟨w1, N, fun b => E.fb ≤ b, ρ⟩) ⟨fun _ h => h, fun b hb => st1.ext b (r.Nlt b hb) id, fun _ _ h => h, fun _ h => h, st1.sz⟩ ef3
    have := GL_fw mI false cs (c := ⟨w1, N, fun b => E.fb ≤ b, ρ⟩) (c' := ⟨w1, N, fun b => E.fb ≤ b, ρi⟩) hcs rfl (fun b hb _ => hb) (fun _ hb => hb) (fun i z y h3 h4 => by rw [hid _ _ h3]; exact (hρs i z h3).trans h4) h0
    rwa [renL_id (fun p hp => (hmI' p hp).1)] at this
  obtain ⟨V, hV⟩ : ∃ V : Array Value, V = #[Value.func (.yield (w.heap.size + 1)) #[] #[]] ++ v2 := ⟨_, rfl⟩
  let ai : Act := { tmps := V ++ Array.replicate (fnI.ntmps - V.size) undef, defers := [] }
  have hvl : cs.length = v2.size := by have := GL_length gcs; simpa using this
  have hlen : V.size = cs.length + 1 := by rw [hV]; simp; omega
  have vi : View E.Gl E.fb ⟨z2 0 (.fn (.yield (w.heap.size + 1)) [] [] :: cs), Hm, nxI⟩ ρi N ai.tmps w1 := by
    refine ⟨v1'.Nlt, v1'.glob, fun t => ?_, fun id seg hs => ?_, fun id seg b hs hb => ?_, fun i j b hi hj hbi hbj => ?_, fun id hne => ?_⟩
    · have gall : GL (.fn (.yield (w.heap.size + 1)) [] [] :: cs) ⟨w1, N, fun b => E.fb ≤ b, ρi⟩ V.toList := by
        rw [hV]
        simp only [Array.toList_append, List.cons_append, List.nil_append, GL]
        exact ⟨_, _, rfl, by simp only [G]; exact ⟨#[], #[], rfl, by simp [GL], by simp [GL]⟩, gcs⟩
      simp only [z2_get, Nat.zero_le, if_true, Nat.sub_zero]
      obtain ⟨h1, h2⟩ := (GL_iff _).1 gall
      by_cases ht : t < (AV.fn (.yield (w.heap.size + 1)) [] [] :: cs).length
      · have e1 : (AV.fn (.yield (w.heap.size + 1)) [] [] :: cs).getD t .junk = (AV.fn (.yield (w.heap.size + 1)) [] [] :: cs)[t] := by simp only [List.getD_eq_getElem?_getD, List.getElem?_eq_getElem ht, Option.getD_some]
        have ht2 : t < V.toList.length := by rw [← h1]; exact ht
        have e2 : ai.tmps.getD t undef = V.toList[t] := by
          have : t < V.size := ht2
          simp only [ai, Array.getD_eq_getD_getElem?, Array.getElem?_append, this, if_true]
          simp [Array.getElem?_eq_getElem this]
        rw [e1, e2]
        exact h2 t _ _ (List.getElem?_eq_getElem ht) (List.getElem?_eq_getElem ht2)
      · have e1 : (AV.fn (.yield (w.heap.size + 1)) [] [] :: cs).getD t .junk = .junk := by
          rw [List.getD_eq_getElem?_getD, List.getElem?_eq_none (by omega)]; rfl
        rw [e1]; simp only [G]
    · obtain ⟨_, hs'⟩ := lkf_appr hdj hs
      have hne := hHm' id seg hs
      cases hz : lkf mI id with
      | none => exact absurd hz hne
      | some z =>
        have e := hρs id z hz
        rcases v1'.hp id seg hs' with ⟨q1, q2⟩ | ⟨b, c, T, q1, q2, q3⟩
        · exact .inl ⟨e.trans q1, q2⟩
        · refine .inr ⟨b, c, T, e.trans q1, q2, ?_⟩
          have := GC_fw mI false seg.cells (c := ⟨w1, N, fun b => E.fb ≤ b, ρ⟩) (c' := ⟨w1, N, fun b => E.fb ≤ b, ρi⟩) (okH_get hHc id seg hs) rfl (fun b hb _ => hb) (fun _ hb => hb) (fun i z y h3 h4 => by rw [hid _ _ h3]; exact (hρs i z h3).trans h4) q3
          rwa [renL_id (fun p hp => (hmI' p hp).1)] at this
    · obtain ⟨_, hs'⟩ := lkf_appr hdj hs
      obtain ⟨z, h1, h2⟩ := hρn id _ hb
      exact v1'.own id seg b hs' h2
    · have nn : ∀ i, lkf Hm i ≠ none → lkf (H0 ++ Hm) i ≠ none := fun i hi => by
        cases hg : lkf Hm i with
        | none => exact absurd hg hi
        | some g => rw [(lkf_appr hdj hg).2]; simp
      obtain ⟨_, _, h1⟩ := hρn i _ hbi
      obtain ⟨_, _, h2⟩ := hρn j _ hbj
      exact v1'.inj i j b (nn i hi) (nn j hj) h1 h2
    · cases hq : ρi id with
      | none => exact absurd hq hne
      | some y => obtain ⟨z, h1, _⟩ := hρn id y hq; exact (hmI' _ (lkf_mem h1)).2
  have hti : ai.tmps.size = fnI.ntmps := by simp only [ai, Array.size_append, Array.size_replicate, hlen]; rw [List.length_cons] at i6; omega
  have ri : Rel ⟨P, Gl, w1, N, mOf ρi Hm, [], fnI.ntmps, [], E.fb⟩ ⟨z2 0 (.fn (.yield (w.heap.size + 1)) [] [] :: cs), Hm, nxI⟩ ρi N ai w1 :=
    View.rel (P := P) (a := ai) (by rw [← hG]; exact vi) (Nat.le_trans r.fbl (Nat.le_trans r.lo st1.lo)) (fun id seg b h1 h2 => mem_mOf.2 ⟨id, seg, h1, h2⟩) (fun p hp => by cases hp) hti rfl
  have hNw : ∀ b, N b → b < w.heap.size := r.Nlt
  have e00 : rcs 0 = rc := if_neg (by omega)
  have own0 : ∀ id seg b, lkf H0 id = some seg → ρ id = some (some b) → ¬ N b ∧ (E.w0.heap.size ≤ b ∨ b ∈ E.M) := fun id seg b h1 h2 => by
    obtain ⟨o1, o2, _⟩ := r.own id seg b (lkf_appl h1) h2
    exact ⟨o1, o2⟩
  have L0 : Ls 0 ⟨P, Gl, w1, N, mOf ρi Hm, [], fnI.ntmps, [], E.fb⟩ := by
    refine ⟨ρ, N, ?_⟩
    rw [e00, h00, hn0]
    refine ⟨rfl, rfl, rfl, v1'.less (H' := H0) (fun id seg h => lkf_appl h), ⟨?_, r.N0, r.Nfr, fun id seg b h1 h2 => (own0 id seg b h1 h2).2, r.ln⟩, hl1, hd1, r.lo, fun b hb => by have := hNw b hb; show b < w1.heap.size; omega,
      fun b hb id seg h1 h2 => (own0 id seg b h1 h2).1 hb, ?_, ⟨fun q => by have := hNw _ q; omega, fun q => by have := hNw _ q; omega, fun q => by have := hNw _ q; omega, fun q => by have := hNw _ q; omega⟩, r.Nfr, Nat.le_refl _, by omega, by have := r.lo; omega⟩
    · exact (r.stp.trans st1).weak fun b _ q => q.elim id False.elim
    · intro b hb
      obtain ⟨id, seg, h1, h2⟩ := mem_mOf.1 hb
      obtain ⟨z, h3, h4⟩ := hρn id _ h2
      obtain ⟨h0n, h5⟩ := lkf_appr hdj h1
      obtain ⟨o1, o2, _⟩ := r.own id seg b h5 h4
      have hb : b < w.heap.size := v0.blt h5 h4
      refine ⟨o1, by omega, by omega, by show b < w1.heap.size; omega, fun id' seg' h6 h7 => ?_, o2⟩
      have := r.inj id id' b (by simp [h5]) (by simp [lkf_appl (B := Hm) h6]) h4 h7
      subst this
      rw [h6] at h0n; cases h0n
  have hcw := i7 _ ⟨rfl, rfl, rfl, L0⟩ ai w1 ⟨ρi, N, ri⟩
  refine ⟨w.heap.size + 1, [{ target := .collected w.heap.size, args := #[] }], w1, { target := .fn (.func n) v2, args := #[.func (.yield (w.heap.size + 1)) #[] #[]] }, w1, n, V, w1, ?_, ?_, fun _ _ => trivial, ?_, fun _ => Nat.le_refl _, ?_⟩
  · rw [hw1, hrc]; exact run_enterLoop_outer _ _ _ _ _
  · have ec : a.eval (.const (.func (.yield (w.heap.size + 1)) #[] #[])) = .func (.yield (w.heap.size + 1)) #[] #[] := rfl
    simp [resolve, ef, Deferred.ofValue, ec]
  · have hp : (program).run P w1 = .ok P w1 := rfl
    have i3' : ¬ fnI.name = "runtime.NumGoroutine" := by simpa using i3
    simp [invoke, callFunc, hp, i1, i2, i3', hV]
  · refine callsIn_of_wp i1 i2 trivial ?_
    have hwp := cwp_soundIn hm none (1 - 1) cI (endW P Gl fnI.ntmps (Ls (if j.isSome = true then m + 1 else m))) ai w1 (.inl rfl) (fun a w h => by rcases h.1 with h | h <;> cases h) hcw
    refine wpIn_mono hwp ?_
    rintro e a' w' ⟨he, E1, s1, p1, p2, p3, ⟨ρ1, N1, hLI⟩, ρi1, Ni1, r1⟩
    obtain ⟨vo, olo, hlo, hdo, ⟨hnl, hnD⟩, _, hdM, _⟩ := hLI.on r1
    have hrst : (rcs (if j.isSome = true then m + 1 else m)).state ≠ .busy ∧ (rcs (if j.isSome = true then m + 1 else m)).pending = jCode j := by
      cases j with
      | none => simp only [Option.isSome_none, Bool.false_eq_true, if_false]; rw [show rcs m = rc from if_neg (by omega), hrc]; exact ⟨by simp, rfl⟩
      | some x => simp only [Option.isSome_some, if_true]; rw [show rcs (m + 1) = _ from if_pos rfl]; exact ⟨by simp, rfl⟩
    obtain ⟨rcE, hrcE⟩ : ∃ x, x = rcs (if j.isSome = true then m + 1 else m) := ⟨_, rfl⟩
    rw [← hrcE] at hlo hrst
    have hend := run_endLoop (P := P) hlo hrst.1
    rw [hrst.2] at hend
    have key : a'.defers = [] ∧ ∃ v, (results fnI a'.tmps).run P w' = .ok v w' ∧ rangePost Fence.wide 1 P (w.heap.size + 1) (Exit.then (fun a w => cwp P l (conc E k) a w) (conc E k)) { a with defers := [{ target := .collected w.heap.size, args := #[] }] ++ a.defers } (.returned v) w' := by
      obtain ⟨u, hu, _⟩ := rv_sound (rs := []) r1 fnI i4 (by simp [rv, rvL])
      rw [p1] at hu
      refine ⟨r1.df.trans hLI.ds, u, hu, jCode j, _, hend, ?_⟩
      -- the caller goes on
      obtain ⟨w4, hw4⟩ : ∃ w4, w4 = w'.putObj (w.heap.size + 1) (.loop { rcE with state := .exhausted, pending := jCode j }) := ⟨_, rfl⟩
      have st4 : Stp (· = w.heap.size + 1) w' w4 := by rw [hw4]; exact Stp.putObj _ hlo (by simp)
      have hNl : ¬ (N1 (w.heap.size + 1) ∨ Ni1 (w.heap.size + 1)) := fun q => q.elim hLI.nl.2.2.1 hnl
      have hblk : ∀ id seg b, lkf (H (if j.isSome = true then m + 1 else m)) id = some seg → ρ1 id = some (some b) → b ≠ w.heap.size + 1 ∧ b ≠ w.heap.size := by
        intro id seg b h1 h2
        obtain ⟨c, T, f, hc⟩ := vo.blk h1 h2
        refine ⟨fun e => ?_, fun e => ?_⟩
        · rw [e, hlo] at hc; cases hc
        · rw [e, hdo] at hc; cases hc
      have v4 := vo.step st4 (fun b hb e => hNl (e ▸ hb)) (fun id seg b h1 h2 e => (hblk id seg b h1 h2).1 e)
      have hd4 : w4.heap[w.heap.size]? = some (.deferred (some [])) := (st4.ext _ (Array.getElem?_eq_some_iff.1 hdo).1 (by omega)).trans hdo
      let E4 : Ent := ⟨P, Gl, w4, fun b => N1 b ∨ Ni1 b, mOf ρ1 (H (if j.isSome = true then m + 1 else m)), E.L, nt, [{ target := .collected w.heap.size, args := #[] }], E.fb⟩
      have r4 : Rel E4 ⟨F0, H (if j.isSome = true then m + 1 else m), nxs (if j.isSome = true then m + 1 else m)⟩ ρ1 (fun b => N1 b ∨ Ni1 b) { a with defers := [{ target := .collected w.heap.size, args := #[] }] ++ a.defers } w4 := by
        refine View.rel (P := P) (a := { a with defers := [{ target := .collected w.heap.size, args := #[] }] ++ a.defers }) (by rw [← hG]; exact v4) ?_ (fun id seg b h1 h2 => mem_mOf.2 ⟨id, seg, h1, h2⟩) olo.ln (r.sz.trans hnt) ?_
        · exact Nat.le_trans r.fbl (Nat.le_trans olo.stp.lo st4.lo)
        · show [_] ++ a.defers = [_]
          rw [r.df, hds]; rfl
      have lk4 : lentA dom E E4 := by
        refine ⟨hLd, ⟨rfl, hP.symm, hG.symm, hnt.symm, rfl, ?_, olo.N0, olo.Nfr, ?_, r.fbl, w.heap.size, rfl, hd4, r.lo, ?_, ?_⟩⟩
        · refine (olo.stp.trans st4).weak fun b hb q => ?_
          rcases q with q | q
          · exact q
          · have := r.lo; omega
        · intro b hb
          obtain ⟨id, seg, h1, h2⟩ := mem_mOf.1 hb
          exact olo.own id seg b h1 h2
        · intro hb
          obtain ⟨id, seg, h1, h2⟩ := mem_mOf.1 hb
          exact (hblk id seg _ h1 h2).2 rfl
        · exact fun q => q.elim hLI.nl.2.2.2 hnD
      have hh := h E4 ⟨rfl, rfl, rfl, lk4⟩ _ w4 ⟨ρ1, _, r4⟩
      have ek : conc E4 k = conc E k := conc_free (show E4.P = E.P from hP.symm) k hk
      rw [ek] at hh
      rw [← hw4]
      cases j with
      | none => simp only [jCode]; simp only [Exit.then]; exact hh
      | some x =>
        cases x <;> simp [jok] at hj
        case ret =>
          simp only [jCode]
          refine wpIn_ret ?_
          simp only [jcode, cwp, cw1, Exit.then] at hh ⊢
          exact hh
        case exit id =>
          simp only [jCode]
          refine wpIn_exit ?_
          simp only [jcode, cwp, cw1, Exit.then] at hh ⊢
          exact hh
    rcases he with rfl | rfl <;> exact key
end Go.Lv
namespace Go.Lv
open Go
def doneM (E0 : Ent) (Q : St → Prop) : Exit → Act → World → Prop := fun e a w => (e = .normal ∨ e = .ret) ∧ ∃ E s, (E = E0 ∧ E.ds = [] ∨ Link E0 E) ∧ Q s ∧ Gam E s a w
theorem AW_doneAR {P : Program} {Gl : List (Nat × List AV)} {Ct : List (Nat × (List AV → R))} {nt : Nat} {dom : List Nat} {E0 : Ent} {Q : St → Prop} {s : St} {l : List C} (h : Q s) : AW ⟨P, Gl, Ct, nt, lentA dom E0⟩ (.ret :: l) (.raw (doneM E0 Q)) s := by
  intro E hE a w hg
  simp only [cwp, cw1, conc, Exit.then]
  exact ⟨.inr rfl, E, s, .inr (show lentA dom E0 E from hE.lent).2, h, hg⟩
theorem Wk_e {P : Program} {Gl : List (Nat × List AV)} {Ct : List (Nat × (List AV → R))} {nt : Nat} {dom : List Nat} {E0 : Ent} {s s' : St} (m : List (Nat × Nat)) (hd : ∀ i ∈ dom, i < s'.nx ∧ lkd i m i = i) (h : wkF m s'.nx s.F s'.F ∧ wkH m s'.nx s.H s'.H ∧ wkM m s'.H) : Wk ⟨P, Gl, Ct, nt, lentE dom E0⟩ s s' := by
  intro E hE a w ⟨ρ, N, r⟩
  exact ⟨_, N, r.wk m h.1 h.2.1 h.2.2 fun p hp => hd _ ((show lentE dom E0 E from hE.lent).1 p hp)⟩
theorem Rel.step {E : Ent} {s : St} {ρ : Nat → Option (Option Nat)} {N : Nat → Prop} {a : Act} {w w' : World} {M : Nat → Prop} (r : Rel E s ρ N a w) (h : Stp M w w') (hN : ∀ b, N b → ¬ M b) (hO : ∀ id seg b, lkf s.H id = some seg → ρ id = some (some b) → ¬ M b) (hM : ∀ b, b < E.w0.heap.size → M b → b ∈ E.M) : Rel E s ρ N a w' := by
  have v := r.view.step h hN hO
  refine ⟨v.Nlt, r.N0, r.Nfr, v.glob, v.fr, v.hp, r.own, r.inj, r.nx, Nat.le_trans r.lo h.lo, fun b hb hm => ?_, h.os.trans r.os, h.tape.trans r.tape, h.output.trans r.output, r.df, r.sz, r.ln, fun b c T f hb => ?_, r.fbl⟩
  · exact (h.ext b (Nat.lt_of_lt_of_le hb r.lo) fun q => hm (hM b hb q)).trans (r.ext b hb hm)
  · obtain ⟨c1, T1, f1, e1, e2⟩ := r.s0 b c T f hb
    obtain ⟨c2, T2, f2, e3, e4⟩ := h.sz b c1 T1 f1 e1
    exact ⟨c2, T2, f2, e3, e4.trans e2⟩
theorem leaves_done {P : Program} {E0 : Ent} {fn : Func} {Q : St → Prop} {R : Ending → World → Prop} {e : Exit} {a : Act} {w : World} (h : doneM E0 Q e a w)
    (hR : ∀ (ds : List Deferred) (s : St) ρ N w', Q s → Rel { E0 with ds := ds } s ρ N a w' → ∃ v, (results fn a.tmps).run P w' = .ok v w' ∧ R (.returned v) w') : bodyPostM Fence.wide 0 P fn R e a w := by
  obtain ⟨he, E, s, hE, hQ, ρ, N, r⟩ := h
  have key : LeavesInM Fence.wide 0 P fn a.tmps R a.defers .returning w := by
    rcases hE with ⟨rfl, hd⟩ | hL
    · rw [r.df, hd]
      obtain ⟨v, h1, h2⟩ := hR [] s ρ N w hQ (by rw [← hd]; exact r)
      exact ⟨v, h1, h2⟩
    · obtain ⟨D, r1, hD, hlo, hN⟩ := hL.rel r
      have hdf : a.defers = [{ target := .collected D, args := #[] }] := r1.df
      rw [hdf]
      have st := Stp.putObj (.deferred none) hD (by simp)
      have r2 := r1.step st (fun b hb q => hN (q ▸ hb)) (fun id seg b h1 h2 q => by
        obtain ⟨c, T, f, hc⟩ := r1.view.blk h1 h2
        rw [q, hD] at hc; cases hc) (fun b hb q => by
        have hb : b < E0.w0.heap.size := hb
        omega)
      obtain ⟨v, h1, h2⟩ := hR _ s ρ N _ hQ r2
      exact ⟨by simp, .inl ⟨D, _, rfl, run_takeDeferred hD, v, h1, h2⟩⟩
  rcases he with rfl | rfl <;> exact key
theorem Fun_ccM {P : Program} {Gl : List (Nat × List AV)} (Ct : List (Nat × (List AV → R))) {n nt : Nat} {fn : Func} {l : List C} {rs : List RS} {az : List AV} {r : AV} (hm : P.follows .mixedOrders = true)
    (hf : P.funcs[n]? = some fn) (hname : (fn.name == "runtime.NumGoroutine") = false) (hl : fn.body.map cc = some l) (hrs : fn.results.toList.map cRS = rs) (hnt : fn.ntmps = nt) (hlen : az.length ≤ nt)
    (h : ∀ E0, AW ⟨P, Gl, Ct, nt, lentE [] E0⟩ l (.raw (doneM E0 (Ret ⟨P, Gl, Ct, nt, pure'⟩ rs r))) ⟨z2 0 az, [], 0⟩) : Fun P Gl n az r := by
  cases hb : fn.body with
  | none => rw [hb] at hl; cases hl
  | some c =>
  rw [hb] at hl
  obtain rfl : cc c = l := by simpa using hl
  refine ⟨⟨fn, c, hf, hb, hname⟩, fun w N vs hw hx => ?_⟩
  subst hnt
  have hxl := GL_length hx
  let E : Ent := ⟨P, Gl, w, N, [], [], fn.ntmps, [], w.heap.size⟩
  let a : Act := { tmps := vs.toArray ++ Array.replicate (fn.ntmps - vs.toArray.size) undef, defers := [] }
  have hE : Kt.ok ⟨P, Gl, Ct, fn.ntmps, lentE [] E⟩ E := ⟨rfl, rfl, rfl, (show lentE [] E E from ⟨fun p hp => (by cases hp), rfl, rfl⟩)⟩
  have hrel : Rel E ⟨z2 0 az, [], 0⟩ (fun _ => none) N a w := by
    refine ⟨hw.lt, fun _ h => h, fun _ h => .inl h, hw.gl, fun t => ?_, fun id seg h => by simp [lkf] at h, fun id seg b h => by simp [lkf] at h, fun i j b h => by simp [lkf] at h, fun id h => absurd rfl h, Nat.le_refl _, fun _ _ _ => rfl, rfl, rfl, rfl, rfl, ?_, (fun p hp => by cases hp), fun b c T f h => ⟨c, T, f, h, rfl⟩, Nat.le_refl _⟩
    · simp only [z2_get, Nat.zero_le, if_true, Nat.sub_zero]
      obtain ⟨h1, h2⟩ := (GL_iff az).1 hx
      by_cases ht : t < az.length
      · have e1 : az.getD t .junk = az[t] := by simp [List.getD_eq_getElem?_getD, ht]
        have e2 : a.tmps.getD t undef = vs[t]'(by omega) := by
          have : t < vs.length := by omega
          simp [a, Array.getD_eq_getD_getElem?, Array.getElem?_append, this]
        rw [e1, e2]
        refine G_mono (c := ⟨w, N, fun _ => False, fun _ => none⟩) _ ⟨fun _ h => h, fun _ _ => rfl, fun _ _ h => (by cases h), fun _ h => h.elim, fun _ c T f h => ⟨c, T, f, h, rfl⟩⟩ (h2 t _ _ (List.getElem?_eq_getElem ht) (List.getElem?_eq_getElem (by omega)))
      · have e1 : az.getD t .junk = .junk := by simp [List.getD_eq_getElem?_getD, List.getElem?_eq_none (by omega : az.length ≤ t)]
        rw [e1]; simp only [G]
    · simp [a, E]; omega
  have hcw := h E E hE a w ⟨_, _, hrel⟩
  have hwp := cwp_soundIn hm none 0 c _ a w (.inl rfl) (fun a w h => by rcases h.1 with h | h <;> cases h) hcw
  refine (callsIn_wide (n := 0)).1 (callsIn_of_wp_marks hf hb trivial (wpIn_mono hwp ?_))
  intro e a' w' hd
  refine leaves_done hd ?_
  rintro ds s ρ N' w' ⟨hr1, hr2⟩ r'
  obtain ⟨u, k1, k2⟩ := rv_sound r' fn hrs hr1
  refine ⟨u, k1, ?_⟩
  have hfr : ∀ id seg b, lkf s.H id = some seg → (({ E with ds := ds } : Ent).cx w' N' ρ).ρ id = some (some b) → seg.fr = true → (({ E with ds := ds } : Ent).cx w' N' ρ).Fb b := fun id seg b h1 h2 h3 => (r'.own id seg b h1 h2).2.2 h3
  have k3 := frz_sound r'.hp hfr 8 true _ _ u (.inl rfl) k2
  refine ⟨u, fun b => N' b ∨ ∃ id seg, lkf s.H id = some seg ∧ ρ id = some (some b), rfl, ⟨r'.lo, fun b hb => r'.ext b hb (by simp [E]), r'.os, r'.tape, r'.output, fun b hb => .inl (r'.N0 b hb), ?_, ?_⟩, ?_⟩
  · rintro b (h | ⟨id, seg, h1, h2⟩)
    · exact r'.Nlt b h
    · exact r'.view.blt h1 h2
  · rintro b (h | ⟨id, seg, h1, h2⟩)
    · exact (r'.Nfr b h).imp id And.left
    · rcases (r'.own id seg b h1 h2).2.1 with h | h
      · exact .inr h
      · simp [E] at h
  · rw [← hr2]
    exact G_mono (c := (({ E with ds := ds } : Ent).cx w' N' ρ).rd s.H true) (c' := ⟨w', _, fun b => w.heap.size ≤ b, fun _ => none⟩) _ ⟨fun _ h => h, fun _ _ => rfl, fun _ _ h => (by cases h), fun _ h => h.2, fun _ c T f h => ⟨c, T, f, h, rfl⟩⟩ k3
end Go.Lv
namespace Go.Lv
open Go
section
variable {E : Ent} {s : St} {ρ : Nat → Option (Option Nat)} {N : Nat → Prop} {a : Act} {w : World}
end
end Go.Lv
