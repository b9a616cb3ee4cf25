/- The abstract walk: an own kit for walks over this program (part FF). -/
import Derived.Test.YtffmejeeddplaaaGreatDoorFE
set_option linter.all false
namespace Go.Lv
open Go
def ufF (F : List (Nat × AV)) : List Nat → List (Nat × AV)
  | [] => F
  | t :: ts => (t, frz [] 8 false (lkd .junk F t)) :: ufF F ts
def ufH (i : Nat) : List (Nat × Seg) → List (Nat × Seg)
  | [] => []
  | (j, g) :: r => (j, match Nat.beq j i with | true => ⟨g.cells.map (frz [] 8 false), g.fr⟩ | false => g) :: ufH i r
theorem G_uf (x : AV) {c : Cx} {v : Value} (h : G x c v) : G (frz [] 8 false x) c v := by
  have := frz_sound (H := []) (c := c) (fun id seg h => by simp [lkf] at h) (fun id seg b h => by simp [lkf] at h) 8 false x _ v (.inl rfl) h
  exact G_mono (c := c.rd [] false) (c' := c) _ ⟨fun b h => h.elim id fun ⟨_, _, h, _⟩ => by simp [lkf] at h, fun _ _ => rfl, fun _ _ h => (by simp [Cx.rd] at h), fun b h => by simp [Cx.rd] at h, fun _ c T f h => ⟨c, T, f, h, rfl⟩⟩ this
theorem GC_uf (cs : List AV) {c : Cx} {b o : Nat} (h : GC cs c b o) : GC (cs.map (frz [] 8 false)) c b o := by
  rw [GC_iff] at h ⊢
  intro t y hy
  rw [List.getElem?_map] at hy
  cases hz : cs[t]? with
  | none => simp [hz] at hy
  | some z =>
    simp only [hz, Option.map_some, Option.some.injEq] at hy
    subst hy
    obtain ⟨u, c1, c2, c3⟩ := h t z hz
    exact ⟨u, c1, c2, G_uf z c3⟩
theorem ufF_get (F : List (Nat × AV)) : ∀ (ts : List Nat) (t : Nat), lkd .junk (ufF F ts) t = lkd .junk F t ∨ lkd .junk (ufF F ts) t = frz [] 8 false (lkd .junk F t)
  | [], t => .inl rfl
  | u :: ts, t => by
    simp only [ufF, lkd]
    cases hb : Nat.beq u t with
    | true => have := Nat.eq_of_beq_eq_true hb; subst this; exact .inr rfl
    | false => exact ufF_get F ts t
theorem ufH_get (i : Nat) : ∀ (H : List (Nat × Seg)) (j : Nat) (g : Seg), lkf (ufH i H) j = some g → ∃ g0, lkf H j = some g0 ∧ g.fr = g0.fr ∧ (g.cells = g0.cells ∨ g.cells = g0.cells.map (frz [] 8 false))
  | [], j, g, h => by simp [ufH, lkf] at h
  | (k, q) :: r, j, g, h => by
    simp only [ufH, lkf] at h ⊢
    cases hb : Nat.beq k j with
    | true =>
      simp only [hb, cond_true, Option.some.injEq] at h ⊢
      subst h
      refine ⟨q, rfl, ?_⟩
      cases Nat.beq k i with
      | true => exact ⟨rfl, .inr rfl⟩
      | false => exact ⟨rfl, .inl rfl⟩
    | false => simp only [hb, cond_false] at h ⊢; exact ufH_get i r j g h
theorem Gam_uf {E : Ent} {s : St} {a : Act} {w : World} (i : Nat) (ts : List Nat) (h : Gam E s a w) : Gam E ⟨ufF s.F ts, ufH i s.H, s.nx⟩ a w := by
  obtain ⟨ρ, N, r⟩ := h
  have old : ∀ j, lkf (ufH i s.H) j ≠ none → lkf s.H j ≠ none := by
    intro j hj
    cases hs : lkf (ufH i s.H) j with
    | none => exact absurd hs hj
    | some g => obtain ⟨g0, h0, _⟩ := ufH_get i s.H j g hs; simp [h0]
  refine ⟨ρ, N, ⟨r.Nlt, r.N0, r.Nfr, r.glob, ?_, ?_, ?_, fun i j b hi hj => r.inj i j b (old i hi) (old j hj), r.nx, r.lo, r.ext, r.os, r.tape, r.output, r.df, r.sz, r.ln, r.s0, r.fbl⟩⟩
  · intro t
    rcases ufF_get s.F ts t with e | e
    · rw [e]; exact r.fr t
    · rw [e]; exact G_uf _ (r.fr t)
  · intro j g hg
    obtain ⟨g0, h0, _, h2⟩ := ufH_get i s.H j g hg
    rcases r.hp j g0 h0 with ⟨k1, k2⟩ | ⟨b, c, T, k1, k2, k3⟩
    · refine .inl ⟨k1, ?_⟩
      rcases h2 with h2 | h2 <;> rw [h2, k2] <;> rfl
    · refine .inr ⟨b, c, T, k1, k2, ?_⟩
      rcases h2 with h2 | h2
      · rw [h2]; exact k3
      · rw [h2]; exact GC_uf _ k3
  · intro j g b hg hb
    obtain ⟨g0, h0, h1, _⟩ := ufH_get i s.H j g hg
    obtain ⟨o1, o2, o3⟩ := r.own j g0 b h0 hb
    exact ⟨o1, o2, fun hf => o3 (by rw [← h1]; exact hf)⟩
theorem Wk_uf {κ : Kt} {s s' : St} (i : Nat) (ts : List Nat) (h : Wk κ ⟨ufF s.F ts, ufH i s.H, s.nx⟩ s') : Wk κ s s' :=
  fun E hE a w hg => h E hE a w (Gam_uf i ts hg)
end Go.Lv
namespace Go.Lv
open Go
theorem Rel.upH {E : Ent} {s : St} {ρ : Nat → Option (Option Nat)} {N : Nat → Prop} {a : Act} {w : World} (r : Rel E s ρ N a w) {H' : List (Nat × Seg)}
    (hH : ∀ j g', lkf H' j = some g' → ∃ g, lkf s.H j = some g ∧ g'.fr = g.fr ∧ (g.cells = [] → g'.cells = []) ∧ ∀ b, GC g.cells (E.cx w N ρ) b 0 → GC g'.cells (E.cx w N ρ) b 0) : Rel E { s with H := H' } ρ N a w := by
  have old : ∀ j, lkf H' j ≠ none → lkf s.H j ≠ none := by
    intro j hj
    cases hs : lkf H' j with
    | none => exact absurd hs hj
    | some g => obtain ⟨g0, h0, _⟩ := hH j g hs; simp [h0]
  refine ⟨r.Nlt, r.N0, r.Nfr, r.glob, r.fr, ?_, ?_, fun i j b hi hj => r.inj i j b (old i hi) (old j hj), r.nx, r.lo, r.ext, r.os, r.tape, r.output, r.df, r.sz, r.ln, r.s0, r.fbl⟩
  · intro j g hg
    obtain ⟨g0, h0, _, h2, h3⟩ := hH j g hg
    rcases r.hp j g0 h0 with ⟨k1, k2⟩ | ⟨b, c, T, k1, k2, k3⟩
    · exact .inl ⟨k1, h2 k2⟩
    · exact .inr ⟨b, c, T, k1, k2, h3 b k3⟩
  · intro j g b hg hb
    obtain ⟨g0, h0, h1, _⟩ := hH j g hg
    obtain ⟨o1, o2, o3⟩ := r.own j g0 b h0 hb
    exact ⟨o1, o2, fun hf => o3 (by rw [← h1]; exact hf)⟩
def mapH (i : Nat) (f : List AV → List AV) : List (Nat × Seg) → List (Nat × Seg)
  | [] => []
  | (j, g) :: r => (j, match Nat.beq j i with | true => ⟨f g.cells, g.fr⟩ | false => g) :: mapH i f r
theorem mapH_get (i : Nat) (f : List AV → List AV) : ∀ (H : List (Nat × Seg)) (j : Nat) (g : Seg), lkf (mapH i f H) j = some g → ∃ g0, lkf H j = some g0 ∧ g.fr = g0.fr ∧ (g.cells = g0.cells ∨ (j = i ∧ g.cells = f g0.cells))
  | [], j, g, h => by simp [mapH, lkf] at h
  | (k, q) :: r, j, g, h => by
    simp only [mapH, lkf] at h ⊢
    cases hb : Nat.beq k j with
    | true =>
      simp only [hb, cond_true, Option.some.injEq] at h ⊢
      have hkj := Nat.eq_of_beq_eq_true hb
      subst h
      refine ⟨q, rfl, ?_⟩
      cases hq : Nat.beq k i with
      | true => exact ⟨rfl, .inr ⟨hkj ▸ Nat.eq_of_beq_eq_true hq, rfl⟩⟩
      | false => exact ⟨rfl, .inl rfl⟩
    | false => simp only [hb, cond_false] at h ⊢; exact mapH_get i f r j g h
theorem GC_tk (m : Nat) (cs : List AV) {c : Cx} {b o : Nat} (h : GC cs c b o) : GC (cs.take m) c b o := by
  rw [GC_iff] at h ⊢
  intro t y hy
  rw [List.getElem?_take] at hy
  split at hy
  · exact h t y hy
  · cases hy
theorem Gam_tr {E : Ent} {s : St} {a : Act} {w : World} (i m : Nat) (h : Gam E s a w) : Gam E ⟨s.F, mapH i (List.take m) s.H, s.nx⟩ a w := by
  obtain ⟨ρ, N, r⟩ := h
  refine ⟨ρ, N, r.upH fun j g hg => ?_⟩
  obtain ⟨g0, h0, h1, h2⟩ := mapH_get i _ s.H j g hg
  refine ⟨g0, h0, h1, fun e => ?_, fun b k => ?_⟩
  · rcases h2 with h2 | ⟨_, h2⟩ <;> rw [h2, e]; simp
  · rcases h2 with h2 | ⟨_, h2⟩
    · rw [h2]; exact k
    · rw [h2]; exact GC_tk m _ k
theorem Wk_tr {κ : Kt} {s s' : St} (i m : Nat) (h : Wk κ ⟨s.F, mapH i (List.take m) s.H, s.nx⟩ s') : Wk κ s s' :=
  fun E hE a w hg => h E hE a w (Gam_tr i m hg)
theorem AW_nulC {κ : Kt} {l : List C} {k : Stk} {s : St} (i p z : Nat) {seg : Seg} (hs : lkf s.H i = some seg) (hp : seg.cells[p]? = some .nils) (hi : i < s.nx)
    (h : AW κ l k ⟨s.F, mapH i (fun cs => cs.set p (.sl s.nx 0 0 z)) ((s.nx, ⟨[], true⟩) :: s.H), s.nx + 1⟩) : AW κ l k s := by
  intro E hE a w ⟨ρ, N, r⟩
  refine h E hE a w ⟨ups ρ s.nx none, N, ?_⟩
  have r' := r.null
  refine r'.upH fun j g hg => ?_
  obtain ⟨g0, h0, h1, h2⟩ := mapH_get i _ _ j g hg
  refine ⟨g0, h0, h1, fun e => ?_, fun b k => ?_⟩
  · rcases h2 with h2 | ⟨_, h2⟩ <;> rw [h2, e]; simp
  · rcases h2 with h2 | ⟨hji, h2⟩
    · rw [h2]; exact k
    · subst hji
      have hne : ¬ s.nx = j := by omega
      have e0 : g0 = seg := by
        have hq : Nat.beq s.nx j = false := by cases hq : Nat.beq s.nx j; rfl; exact absurd (Nat.eq_of_beq_eq_true hq) hne
        simp only [lkf, hq, cond_false] at h0
        rw [hs] at h0
        exact (Option.some.inj h0).symm
      subst e0
      rw [h2]
      rw [GC_iff] at k ⊢
      intro t y hy
      rw [List.getElem?_set] at hy
      by_cases e : p = t
      · subst e
        obtain ⟨u, c1, c2, c3⟩ := k p _ hp
        simp only [G] at c3
        have hy2 : y = .sl s.nx 0 0 z := by
          rw [if_pos rfl] at hy
          split at hy
          · exact (Option.some.inj hy).symm
          · cases hy
        subst hy2
        refine ⟨u, c1, c2, ?_⟩
        rw [c3]
        exact sl_null E w N ρ s.nx z
      · rw [if_neg e] at hy
        exact k t y hy
end Go.Lv
namespace Go.Lv
open Go
theorem argsR_nil {Hc : List (Nat × Seg)} {m : List (Nat × Nat)} : ∀ {ys : List AV}, argsR Hc m ys [] → ys = []
  | [], _ => rfl
  | y :: ys, h => by simp only [argsR] at h
theorem argsR_GC {E : Ent} {s : St} {ρ : Nat → Option (Option Nat)} {N : Nat → Prop} {a : Act} {w : World} (r : Rel E s ρ N a w) {Hc : List (Nat × Seg)} (hc : ∀ id seg, lkf Hc id = some seg → lkf s.H id = some seg) {m : List (Nat × Nat)} {b : Nat} : ∀ {ys xs : List AV} {o : Nat},
    argsR Hc m ys xs → GC xs (E.cx w N ρ) b o → GC ys ⟨w, fun b => N b ∨ ∃ id seg, lkf Hc id = some seg ∧ ρ id = some (some b), fun _ => False, fun j => (lkf m j).bind ρ⟩ b o
  | [], xs, o, h, g => by simp only [GC]
  | y :: ys, [], o, h, g => by simp only [argsR] at h
  | y :: ys, x :: xs, o, h, g => by
    simp only [argsR] at h
    simp only [GC] at g ⊢
    obtain ⟨⟨u, c1, c2, c3⟩, g2⟩ := g
    exact ⟨⟨u, c1, c2, argR_sound r hc h.1 c3⟩, argsR_GC r hc h.2 g2⟩
def argX (Hc : List (Nat × Seg)) (m : List (Nat × Nat)) (y x : AV) : Prop := match y with
  | .fn f fs cs => match x with
    | .fn f' fs' cs' => f = f' ∧ argsR Hc m fs fs' ∧ argsR Hc m cs cs'
    | _ => False
  | _ => argR Hc m y x
def argsX (Hc : List (Nat × Seg)) (m : List (Nat × Nat)) : List AV → List AV → Prop
  | [], xs => xs = []
  | a :: az, xs => match xs with
    | [] => False
    | x :: xs => argX Hc m a x ∧ argsX Hc m az xs
theorem argX_sound {E : Ent} {s : St} {ρ : Nat → Option (Option Nat)} {N : Nat → Prop} {a : Act} {w : World} (r : Rel E s ρ N a w) {Hc : List (Nat × Seg)} (hc : ∀ id seg, lkf Hc id = some seg → lkf s.H id = some seg) {m : List (Nat × Nat)} {y x : AV} {v : Value}
    (h : argX Hc m y x) (g : G x (E.cx w N ρ) v) : G y ⟨w, fun b => N b ∨ ∃ id seg, lkf Hc id = some seg ∧ ρ id = some (some b), fun _ => False, fun j => (lkf m j).bind ρ⟩ v := by
  unfold argX at h
  split at h
  · split at h
    · obtain ⟨rfl, h1, h2⟩ := h
      simp only [G] at g ⊢
      obtain ⟨vs, us, rfl, g1, g2⟩ := g
      exact ⟨vs, us, rfl, argsR_sound r hc h1 g1, argsR_sound r hc h2 g2⟩
    · exact h.elim
  · exact argR_sound r hc h g
theorem argsX_sound {E : Ent} {s : St} {ρ : Nat → Option (Option Nat)} {N : Nat → Prop} {a : Act} {w : World} (r : Rel E s ρ N a w) {Hc : List (Nat × Seg)} (hc : ∀ id seg, lkf Hc id = some seg → lkf s.H id = some seg) {m : List (Nat × Nat)} : ∀ {ys xs : List AV} {vs : List Value},
    argsX Hc m ys xs → GL xs (E.cx w N ρ) vs → GL ys ⟨w, fun b => N b ∨ ∃ id seg, lkf Hc id = some seg ∧ ρ id = some (some b), fun _ => False, fun j => (lkf m j).bind ρ⟩ vs
  | [], xs, vs, h, g => by simp only [argsX] at h; subst h; simpa only [GL] using g
  | y :: ys, [], vs, h, g => by simp only [argsX] at h
  | y :: ys, x :: xs, vs, h, g => by
    simp only [argsX] at h
    simp only [GL] at g ⊢
    obtain ⟨u, us, rfl, h1, h2⟩ := g
    exact ⟨u, us, rfl, argX_sound r hc h.1 h1, argsX_sound r hc h.2 h2⟩
def heapRd (sH : List (Nat × Seg)) (m : List (Nat × Nat)) (H' : List (Nat × Seg)) : List (Nat × Seg) → Prop
  | [] => True
  | (j, seg) :: r => (match lkf m j with
      | some i => match lkf sH i with
        | some g => seg.cells = g.cells.map (frz [] 8 false) ∨ argsR [] m seg.cells g.cells
        | none => False
      | none => False) ∧ heapRd sH m H' r
theorem heapRd_get {sH : List (Nat × Seg)} {m : List (Nat × Nat)} {H' : List (Nat × Seg)} : ∀ {H : List (Nat × Seg)}, heapRd sH m H' H → ∀ j seg, lkf H j = some seg →
    ∃ i g, lkf m j = some i ∧ lkf sH i = some g ∧ (seg.cells = g.cells.map (frz [] 8 false) ∨ argsR [] m seg.cells g.cells)
  | [], _, j, seg, h => by simp [lkf] at h
  | (k, u) :: r, h, j, seg, hs => by
    simp only [heapRd] at h
    simp only [lkf] at hs
    cases hb : Nat.beq k j with
    | true =>
      have := Nat.eq_of_beq_eq_true hb; subst this
      simp only [hb, cond_true, Option.some.injEq] at hs
      subst hs
      obtain ⟨h1, _⟩ := h
      split at h1
      · rename_i i hi
        split at h1
        · rename_i g hg
          exact ⟨i, g, hi, hg, h1⟩
        · exact h1.elim
      · exact h1.elim
    | false => simp only [hb, cond_false] at hs; exact heapRd_get h.2 j seg hs
def updHd (m nw : List (Nat × Nat)) (H' : List (Nat × Seg)) : List (Nat × Seg) → List (Nat × Seg)
  | [] => []
  | (i, q) :: r => match lkf (m.map fun p => (p.2, p.1)) i with
      | some j => match lkf H' j with
        | some g' => (i, ⟨ren.renL (m ++ nw) g'.cells, q.fr⟩) :: updHd m nw H' r
        | none => updHd m nw H' r
      | none => (i, q) :: updHd m nw H' r
theorem updHd_none {m nw : List (Nat × Nat)} {H' : List (Nat × Seg)} {i j : Nat} (h1 : lkf (m.map fun p => (p.2, p.1)) i = some j) (h2 : lkf H' j = none) : ∀ {sH : List (Nat × Seg)}, lkf (updHd m nw H' sH) i = none
  | [] => by simp [updHd, lkf]
  | (k, u) :: r => by
    have ih := updHd_none (nw := nw) h1 h2 (sH := r)
    simp only [updHd]
    by_cases e : k = i
    · subst e; simp only [h1, h2]; exact ih
    · have hb : Nat.beq k i = false := by cases hb : Nat.beq k i; rfl; exact absurd (Nat.eq_of_beq_eq_true hb) e
      split
      · split
        · simp only [lkf, hb, cond_false]; exact ih
        · exact ih
      · simp only [lkf, hb, cond_false]; exact ih
theorem updHd_get {m nw : List (Nat × Nat)} {H' : List (Nat × Seg)} : ∀ {sH : List (Nat × Seg)} {i : Nat} {g : Seg}, lkf (updHd m nw H' sH) i = some g →
    ∃ q, lkf sH i = some q ∧ ((lkf (m.map fun p => (p.2, p.1)) i = none ∧ g = q) ∨ ∃ j g', lkf (m.map fun p => (p.2, p.1)) i = some j ∧ lkf H' j = some g' ∧ g = ⟨ren.renL (m ++ nw) g'.cells, q.fr⟩)
  | [], i, g, h => by simp [updHd, lkf] at h
  | (k, u) :: r, i, g, h => by
    by_cases e : k = i
    · subst e
      refine ⟨u, by simp [lkf], ?_⟩
      simp only [updHd] at h
      cases h1 : lkf (m.map fun p => (p.2, p.1)) k with
      | none =>
        simp only [h1, lkf, Nat.beq_refl, cond_true, Option.some.injEq] at h
        exact .inl ⟨rfl, h.symm⟩
      | some j =>
        cases h2 : lkf H' j with
        | none => simp only [h1, h2] at h; rw [updHd_none h1 h2] at h; cases h
        | some g' =>
          simp only [h1, h2, lkf, Nat.beq_refl, cond_true, Option.some.injEq] at h
          exact .inr ⟨j, g', rfl, h2, h.symm⟩
    · have hb : Nat.beq k i = false := by cases hb : Nat.beq k i; rfl; exact absurd (Nat.eq_of_beq_eq_true hb) e
      have h' : lkf (updHd m nw H' r) i = some g := by
        simp only [updHd] at h
        split at h
        · split at h
          · simpa only [lkf, hb, cond_false] using h
          · exact h
        · simpa only [lkf, hb, cond_false] using h
      obtain ⟨q, h1, h2⟩ := updHd_get h'
      exact ⟨q, by simp only [lkf, hb, cond_false]; exact h1, h2⟩
set_option maxHeartbeats 1000000 in
theorem AW_callGd {κ : Kt} {l : List C} {k : Stk} {s : St} {d n : Nat} {f : X} {xs : List X} {az : List AV} {H H' : List (Nat × Seg)} {r : AV}
    (m nw : List (Nat × Nat)) (nx' : Nat) (Hc : List (Nat × Seg)) (fl : Bool) (fs cs : List AV)
    (hf : evx κ.Gl s.F f = .fn (.func n) fs cs) (hd : d < κ.nt) (hfun : FunG κ.P κ.Gl n az H r H')
    (hok : okG m nw s.nx nx' (H.map Prod.fst) = true) (hfl : fl = true ∨ Hc = [])
    (hHc : subH' s.H Hc) (hHm : m.all (fun p => (lkf Hc p.2).isNone) = true)
    (has : argsX Hc m az (fs ++ evs κ.Gl s.F xs ++ cs)) (hH : heapRd s.H m H' H) (hr : okx fl (m ++ nw) r) (hH' : okH fl (m ++ nw) H')
    (h : AW κ l k ⟨(d, ren (m ++ nw) r) :: ers s.F d, newH m nw H' nw ++ updHd m nw H' s.H, nx'⟩) : AW κ (.o (.call d f xs) :: l) k s := by
  refine AW_o fun E hE ρ N a w rl => ?_
  have hP := hE.P.symm
  have hG := hE.Gl.symm
  have hnt := hE.nt.symm
  rw [hP] at hfun
  rw [hG] at hfun hf has
  simp only [okG, Bool.and_eq_true, beq_iff_eq, List.all_eq_true, decide_eq_true_eq, Nat.blt_eq, Nat.ble_eq, Option.isNone_iff_eq_none] at hok
  obtain ⟨⟨⟨⟨⟨⟨⟨⟨m1, m2⟩, m3⟩, n1⟩, n2⟩, n3⟩, nn⟩, n4⟩, hnd⟩ := hok
  have hc := subH'_get hHc
  -- the call
  intro ops o hc'
  obtain ⟨hgd, hc'⟩ := cI_ng hc' rfl
  have hw : Region.wanted o (yielded ops a.tmps) = true := by simp [Region.wanted, hgd]
  rw [if_pos hw]
  obtain ⟨dst, op, ty, pos, after, guard⟩ := o
  obtain ⟨rfl, f', args, tys, rfl, rfl, rfl⟩ := cOp_call hc'
  have gf := evx_sound rl f'
  rw [hf] at gf
  simp only [G] at gf
  obtain ⟨vs, us, e1, g1, g2⟩ := gf
  have hx : GL (fs ++ evs E.Gl s.F (args.toList.map cX) ++ cs) (E.cx w N ρ) (vs.toList ++ args.toList.map a.eval ++ us.toList) := GL_app (GL_app g1 (evs_sound rl _)) g2
  let N1 : Nat → Prop := fun b => N b ∨ ∃ id seg, lkf Hc id = some seg ∧ ρ id = some (some b)
  let ρc : Nat → Option (Option Nat) := fun j => (lkf m j).bind ρ
  have hx' := argsX_sound rl hc has hx
  have hlt : ∀ id seg b, lkf s.H id = some seg → ρ id = some (some b) → b < w.heap.size := by
    intro id seg b h1 h2
    rcases rl.hp id seg h1 with ⟨h5, _⟩ | ⟨b', c, T, h5, h6, _⟩
    · rw [show ρ id = some none from h5] at h2; cases h2
    · rw [show ρ id = some (some b') from h5] at h2; cases h2
      exact (Array.getElem?_eq_some_iff.1 h6).1
  have hwok : Wok E.Gl w N1 := by
    refine ⟨?_, ?_⟩
    · rintro b (h | ⟨id, seg, h1, h2⟩)
      · exact rl.Nlt b h
      · exact hlt id seg b (hc id seg h1) h2
    · intro g cs h
      obtain ⟨h1, h2⟩ := rl.glob g cs h
      exact ⟨.inl h1, GC_mono (c := (E.cx w N ρ).rf) (c' := ⟨w, N1, fun _ => False, fun _ => none⟩) ⟨fun _ h => .inl h, fun _ _ => rfl, fun _ _ h => by simp [Cx.rf] at h, fun _ h => h, fun _ c T f h => ⟨c, T, f, h, rfl⟩⟩ (fun _ => rfl) _ h2⟩
  have hmem : ∀ {j i : Nat}, lkf m j = some i → (j, i) ∈ m := fun h => lkf_mem h
  have hHg := heapRd_get hH
  have hkey : ∀ j, lkf m j ≠ none ↔ lkf H j ≠ none := fun j => by rw [lkf_key, lkf_key, m1]
  have hhp : HeapOK ⟨w, N1, fun _ => False, ρc⟩ H lkf := by
    intro j seg hs
    obtain ⟨i, g, q1, q2, q3⟩ := hHg j seg hs
    have er : ρc j = ρ i := by simp [ρc, q1]
    rcases rl.hp i g q2 with ⟨k1, k2⟩ | ⟨b, c, T, k1, k2, k3⟩
    · refine .inl ⟨er.trans k1, ?_⟩
      rcases q3 with q3 | q3
      · rw [q3, k2]; rfl
      · rw [k2] at q3; exact argsR_nil q3
    · refine .inr ⟨b, c, T, er.trans k1, k2, ?_⟩
      rcases q3.symm with q3 | q3
      · have k4 := argsR_GC rl (Hc := []) (fun id seg h => by simp [lkf] at h) q3 k3
        exact GC_mono (c := ⟨w, fun b => N b ∨ ∃ id seg, lkf ([] : List (Nat × Seg)) id = some seg ∧ ρ id = some (some b), fun _ => False, ρc⟩) (c' := ⟨w, N1, fun _ => False, ρc⟩) ⟨fun b h => h.elim .inl fun ⟨_, _, h, _⟩ => by simp [lkf] at h, fun _ _ => rfl, fun _ _ h => h, fun _ h => h, fun _ c T f h => ⟨c, T, f, h, rfl⟩⟩ (fun _ => rfl) _ k4
      rw [q3]
      rw [GC_iff] at k3 ⊢
      intro t y hy
      rw [List.getElem?_map] at hy
      cases hz : g.cells[t]? with
      | none => simp [hz] at hy
      | some z =>
        simp only [hz, Option.map_some, Option.some.injEq] at hy
        subst hy
        obtain ⟨u, c1, c2, c3⟩ := k3 t z hz
        refine ⟨u, c1, c2, ?_⟩
        have := frz_sound (H := []) (c := E.cx w N ρ) (fun id seg h => by simp [lkf] at h) (fun id seg b h => by simp [lkf] at h) 8 false z _ u (.inl rfl) c3
        exact G_mono (c := (E.cx w N ρ).rd [] false) (c' := ⟨w, N1, fun _ => False, ρc⟩) _ ⟨fun b h => h.elim .inl fun ⟨_, _, h, _⟩ => by simp [lkf] at h, fun _ _ => rfl, fun _ _ h => (by simp [Cx.rd] at h), fun b h => (by simp [Cx.rd] at h), fun _ c T f h => ⟨c, T, f, h, rfl⟩⟩ this
  have hdm : ∀ j, ρc j ≠ none → lkf H j ≠ none := by
    intro j hj
    refine (hkey j).1 fun h0 => hj ?_
    simp [ρc, h0]
  have hcell : ∀ j b, ρc j = some (some b) → ∃ i g, lkf m j = some i ∧ lkf s.H i = some g ∧ ρ i = some (some b) := by
    intro j b hj
    have h1 := hdm j (by rw [hj]; simp)
    cases hs : lkf H j with
    | none => exact absurd hs h1
    | some sg =>
      obtain ⟨i, g, q1, q2, _⟩ := hHg j sg hs
      exact ⟨i, g, q1, q2, by simpa [ρc, q1] using hj⟩
  have hown : ∀ id seg b, lkf H id = some seg → ρc id = some (some b) → ¬ N1 b := by
    intro j seg b hs hb
    obtain ⟨i, g, q1, q2, q3⟩ := hcell j b hb
    rintro (h | ⟨id, sg, h1, h2⟩)
    · exact (rl.own i g b q2 q3).1 h
    · have e := rl.inj i id b (by rw [q2]; simp) (by rw [hc id sg h1]; simp) q3 h2
      subst e
      have := List.all_eq_true.1 hHm _ (hmem q1)
      simp [h1] at this
  have hinj : ∀ i j b, lkf H i ≠ none → lkf H j ≠ none → ρc i = some (some b) → ρc j = some (some b) → i = j := by
    intro i j b _ _ hi hj
    obtain ⟨i', g, q1, q2, q3⟩ := hcell i b hi
    obtain ⟨j', g', p1, p2, p3⟩ := hcell j b hj
    have e := rl.inj i' j' b (by rw [q2]; simp) (by rw [p2]; simp) q3 p3
    subst e
    exact nodup_snd m3 (hmem q1) (hmem p1)
  have hcall := hfun.2 w N1 ρc _ hwok hx' hhp hdm hown hinj
  have earr : (vs.toList ++ args.toList.map a.eval ++ us.toList).toArray = vs ++ args.map a.eval ++ us := by apply Array.toList_inj.1; simp
  rw [earr] at hcall
  unfold Oper.wp
  rw [call_run a.eval e1 hfun.1]
  refine Calls.mono hcall ?_
  rintro e w' ⟨v, N', ρ', rfl, p, hρ, hp', hown', hinj', hv⟩
  -- the state behind it
  let ρ2 : Nat → Option (Option Nat) := fun i => if i < s.nx then ρ i else (lkf (nw.map fun p => (p.2, p.1)) i).bind ρ'
  let N2 : Nat → Prop := fun b => N b ∨ (N' b ∧ w.heap.size ≤ b)
  have hMset : ∀ b, (∃ j, ρc j = some (some b)) → ¬ N b ∧ (E.w0.heap.size ≤ b ∨ b ∈ E.M) := by
    rintro b ⟨j, hj⟩
    obtain ⟨i, g, q1, q2, q3⟩ := hcell j b hj
    exact ⟨(rl.own i g b q2 q3).1, (rl.own i g b q2 q3).2.1⟩
  have hρ2 : ∀ id y, ρ id = some y → ρ2 id = some y := by
    intro id y h
    have := rl.nx id (by rw [h]; simp)
    simp [ρ2, this, h]
  have cle : (E.cx w N ρ).le (E.cx w' N2 ρ2) := by
    refine ⟨fun _ h => .inl h, fun b hb => ?_, hρ2, fun _ h => h, p.sz⟩
    exact p.ext b (rl.Nlt b hb) fun hM => (hMset b hM).1 hb
  have hbw : ∀ {id seg b}, lkf s.H id = some seg → ρ id = some (some b) → ¬ N2 b := by
    intro id seg b h1 h2
    have := hlt id seg b h1 h2
    rintro (h | h)
    · exact (rl.own id seg b h1 h2).1 h
    · have := h.2; omega
  -- what the callee's names mean
  have hM2 : ∀ j i y, lkf (m ++ nw) j = some i → ρ' j = some y → ρ2 i = some y := by
    intro j i y hj hy
    rw [lkf_app] at hj
    cases h1 : lkf m j with
    | some i' =>
      simp only [h1, Option.some_or, Option.some.injEq] at hj
      subst hj
      have hs := (hkey j).1 (by rw [h1]; simp)
      cases hsg : lkf H j with
      | none => exact absurd hsg hs
      | some sg =>
        obtain ⟨i2, g, q1, q2, _⟩ := hHg j sg hsg
        rw [h1] at q1; cases q1
        cases hr : ρ i' with
        | none =>
          rcases rl.hp i' g q2 with ⟨k1, k2⟩ | ⟨b, c, T, k1, k2, k3⟩
          · rw [show ρ i' = some none from k1] at hr; cases hr
          · rw [show ρ i' = some (some b) from k1] at hr; cases hr
        | some z =>
          have e : ρc j = some z := by simp only [ρc, h1, Option.bind_some]; exact hr
          rw [hρ j z e] at hy; cases hy
          exact hρ2 _ _ hr
    | none =>
      simp only [h1, Option.none_or] at hj
      have hm := lkf_mem hj
      have hi := (n1 _ hm).1
      have : ¬ i < s.nx := by simp only at hi; omega
      have e : lkf (nw.map fun p => (p.2, p.1)) i = some j := by
        refine nodup_fst ?_ (List.mem_map.2 ⟨_, hm, rfl⟩)
        simpa [List.map_map, Function.comp_def] using n2
      simp [ρ2, this, e, hy]
  have hNN : ∀ b, N' b → (fl = true → w.heap.size ≤ b) → N2 b := by
    intro b h1 h2
    rcases hfl with h | h
    · exact .inr ⟨h1, h2 h⟩
    · subst h
      rcases p.fr b h1 with h3 | h3
      · rcases h3 with h3 | ⟨id, seg, h3, _⟩
        · exact .inl h3
        · simp [lkf] at h3
      · exact .inr ⟨h1, h3⟩
  have hFb : ∀ b, w.heap.size ≤ b → E.fb ≤ b := fun b h => Nat.le_trans rl.fbl (Nat.le_trans rl.lo h)
  have hv2 : G (ren (m ++ nw) r) (E.cx w' N2 ρ2) v := G_fw (m ++ nw) fl r (c := ⟨w', N', fun b => w.heap.size ≤ b, ρ'⟩) (c' := E.cx w' N2 ρ2) hr rfl hNN hFb hM2 hv
  have hokH := okH_get hH'
  have hcells : ∀ j g' b, lkf H' j = some g' → GC g'.cells ⟨w', N', fun b => w.heap.size ≤ b, ρ'⟩ b 0 → GC (ren.renL (m ++ nw) g'.cells) (E.cx w' N2 ρ2) b 0 := fun j g' b h1 h2 =>
    GC_fw (m ++ nw) fl _ (c := ⟨w', N', fun b => w.heap.size ≤ b, ρ'⟩) (c' := E.cx w' N2 ρ2) (hokH j g' h1) rfl hNN hFb hM2 h2
  -- each block behind it: of the callee's names, or untouched
  have hall : ∀ i g, lkf (newH m nw H' nw ++ updHd m nw H' s.H) i = some g →
      (∃ j g', lkf H' j = some g' ∧ g.cells = ren.renL (m ++ nw) g'.cells ∧ ρ2 i = ρ' j ∧ ρ2 i ≠ none ∧ ((lkf m j = some i ∧ lkf H j ≠ none ∧ ∃ q, lkf s.H i = some q ∧ g.fr = q.fr) ∨ ((j, i) ∈ nw ∧ lkf m j = none ∧ ¬ i < s.nx ∧ i < nx' ∧ g.fr = g'.fr))) ∨
      (lkf s.H i = some g ∧ ∀ j, lkf m j ≠ some i) := by
    intro i g h
    rw [lkf_app] at h
    cases h1 : lkf (newH m nw H' nw) i with
    | some g1 =>
      simp only [h1, Option.some_or, Option.some.injEq] at h
      subst h
      obtain ⟨j, g', h2, h3, rfl⟩ := newH_get h1
      have hi := n1 _ h2
      have hni : ¬ i < s.nx := by have := hi.1; simp only at this; omega
      have e : lkf (nw.map fun p => (p.2, p.1)) i = some j := by
        refine nodup_fst ?_ (List.mem_map.2 ⟨_, h2, rfl⟩)
        simpa [List.map_map, Function.comp_def] using n2
      have er : ρ2 i = ρ' j := by simp [ρ2, hni, e]
      have hn : ρ' j ≠ none := by
        rcases hp' j g' h3 with ⟨k1, _⟩ | ⟨b, c, T, k1, _⟩
        · rw [show ρ' j = some none from k1]; simp
        · rw [show ρ' j = some (some b) from k1]; simp
      exact .inl ⟨j, g', h3, rfl, er, er ▸ hn, .inr ⟨h2, n3 _ h2, hni, hi.2, rfl⟩⟩
    | none =>
      simp only [h1, Option.none_or] at h
      obtain ⟨q, h2, h3⟩ := updHd_get h
      rcases h3 with ⟨h3, rfl⟩ | ⟨j, g'', h3, h4, rfl⟩
      · exact .inr ⟨h2, fun j hj => swap_none h3 (lkf_mem hj)⟩
      · have hm := swap_get h3
        have hmj : lkf m j = some i := by
          cases hx : lkf m j with
          | none => exact absurd hx (lkf_some hm)
          | some i' =>
            rw [nodup_fst hnd hm] at hx
            exact hx ▸ rfl
        have hHj := (hkey j).1 (by rw [hmj]; simp)
        have hri : ρ i ≠ none := by
          rcases rl.hp i q h2 with ⟨k1, _⟩ | ⟨b, c, T, k1, _⟩
          · rw [show ρ i = some none from k1]; simp
          · rw [show ρ i = some (some b) from k1]; simp
        cases hz : ρ i with
        | none => exact absurd hz hri
        | some z =>
          have e : ρc j = some z := by simp only [ρc, hmj, Option.bind_some]; exact hz
          have e2 := hρ2 _ _ hz
          exact .inl ⟨j, g'', h4, rfl, by rw [e2, hρ j z e], by rw [e2]; simp, .inl ⟨hmj, hHj, q, h2, rfl⟩⟩
  have hnew : ∀ j i b, (j, i) ∈ nw → lkf m j = none → lkf H' j ≠ none → ρ' j = some (some b) → w.heap.size ≤ b ∨ ∃ j0 i0 g0, lkf H' j0 = none ∧ lkf m j0 = some i0 ∧ lkf s.H i0 = some g0 ∧ ρ i0 = some (some b) := by
    intro j i b h1 h2 h3 h4
    cases hs : lkf H' j with
    | none => exact absurd hs h3
    | some sg =>
      rcases (hown' j sg b hs h4).2.1 with h | ⟨j0, h⟩
      · exact .inl h
      · obtain ⟨i0, g0, q1, q2, q3⟩ := hcell j0 b h
        cases hH0 : lkf H' j0 with
        | none => exact .inr ⟨j0, i0, g0, hH0, q1, q2, q3⟩
        | some g' =>
          have := hinj' j j0 b h3 (by rw [hH0]; simp) h4 (hρ j0 _ h)
          subst this
          rw [q1] at h2; cases h2
  have hnN2 : ∀ b, w.heap.size ≤ b → ¬ N' b → ¬ N2 b := by
    rintro b h1 h2 (h | h)
    · have := rl.Nlt b h; omega
    · exact h2 h.1
  have hrel2 : Rel E { s with H := newH m nw H' nw ++ updHd m nw H' s.H, nx := nx' } ρ2 N2 a w' := by
    refine rl.next ⟨cle, ?_, ?_, ?_, ?_, ?_, ?_, p.lo, ?_, p.os, p.tape, p.output⟩
    · rintro b (h | h)
      · exact Nat.lt_of_lt_of_le (rl.Nlt b h) p.lo
      · exact p.lt b h.1
    · rintro b (h | h)
      · exact .inl h
      · exact .inr (Nat.le_trans rl.lo h.2)
    · intro i g hg
      rcases hall i g hg with ⟨j, g', q1, q2, q3, q4, _⟩ | ⟨q1, q2⟩
      · rcases hp' j g' q1 with ⟨k1, k2⟩ | ⟨b, c, T, k1, k2, k3⟩
        · exact .inl ⟨q3.trans k1, by rw [q2, k2]; rfl⟩
        · exact .inr ⟨b, c, T, q3.trans k1, k2, by rw [q2]; exact hcells j g' b q1 k3⟩
      · rcases rl.hp i g q1 with ⟨k1, k2⟩ | ⟨b, c, T, k1, k2, k3⟩
        · exact .inl ⟨hρ2 _ _ k1, k2⟩
        · have hb : b < w.heap.size := hlt i g b q1 k1
          have he : w'.heap[b]? = w.heap[b]? := by
            refine p.ext b hb ?_
            rintro ⟨j, hj⟩
            obtain ⟨i', gq, p1, p2, p3⟩ := hcell j b hj
            have := rl.inj i i' b (by rw [q1]; simp) (by rw [p2]; simp) k1 p3
            subst this
            exact q2 j p1
          exact .inr ⟨b, c, T, hρ2 _ _ k1, he.trans k2, GC_mono cle (fun o => cell_of_heap he o) _ k3⟩
    · intro i g b hg hb
      rcases hall i g hg with ⟨j, g', q1, q2, q3, q4, q5⟩ | ⟨q1, q2⟩
      · rw [q3] at hb
        obtain ⟨o1, o2, o3⟩ := hown' j g' b q1 hb
        rcases q5 with ⟨q5, q6, q, q7, q8⟩ | ⟨q5, q6, q7, q8, q9⟩
        · have hri : ρ i = some (some b) := by
            have hz := q4
            cases hz : ρ i with
            | none =>
              rcases rl.hp i q q7 with ⟨k1, _⟩ | ⟨b, c, T, k1, _⟩
              · rw [show ρ i = some none from k1] at hz; cases hz
              · rw [show ρ i = some (some b) from k1] at hz; cases hz
            | some z =>
              have := hρ2 _ _ hz
              rw [q3, hb] at this
              exact this.symm
          obtain ⟨r1, r2, r3⟩ := rl.own i q b q7 hri
          exact ⟨hbw q7 hri, r2, fun hf => r3 (by rw [← q8]; exact hf)⟩
        · rcases hnew j i b q5 q6 (by rw [q1]; simp) hb with this | ⟨j0, i0, g0, z1, z2, z3, z4⟩
          · exact ⟨hnN2 b this o1, .inl (Nat.le_trans rl.lo this), fun _ => hFb b this⟩
          · obtain ⟨r1, r2, r3⟩ := rl.own i0 g0 b z3 z4
            exact ⟨hbw z3 z4, r2, fun hf => hFb b (o3 (by rw [← q9]; exact hf))⟩
      · have hri : ρ i = some (some b) := by
          rcases rl.hp i g q1 with ⟨k1, k2⟩ | ⟨b', c, T, k1, k2, k3⟩
          · rw [hρ2 _ _ k1] at hb; cases hb
          · rw [hρ2 _ _ k1] at hb; cases hb; exact k1
        obtain ⟨r1, r2, r3⟩ := rl.own i g b q1 hri
        exact ⟨hbw q1 hri, r2, r3⟩
    · -- two names of one block
      have hold : ∀ i b, (∃ q, lkf s.H i = some q) → ρ2 i = some (some b) → ρ i = some (some b) := by
        rintro i b ⟨q, q7⟩ hb
        rcases rl.hp i q q7 with ⟨k1, _⟩ | ⟨b', c, T, k1, _⟩
        · rw [hρ2 _ _ k1] at hb; cases hb
        · rw [hρ2 _ _ k1] at hb; cases hb; exact k1
      have hcase : ∀ i b, lkf (newH m nw H' nw ++ updHd m nw H' s.H) i ≠ none → ρ2 i = some (some b) → (∃ q, lkf s.H i = some q ∧ ρ i = some (some b) ∧ b < w.heap.size ∧ ∀ j0, lkf m j0 = some i → lkf H' j0 ≠ none) ∨ (∃ j, (j, i) ∈ nw ∧ lkf m j = none ∧ lkf H' j ≠ none ∧ ρ' j = some (some b)) := by
        intro i b hi hb
        cases hg : lkf (newH m nw H' nw ++ updHd m nw H' s.H) i with
        | none => exact absurd hg hi
        | some g =>
          rcases hall i g hg with ⟨j, g', q1, q2, q3, q4, q5⟩ | ⟨q1, q2⟩
          · rcases q5 with ⟨q5, q6, q, q7, q8⟩ | ⟨q5, q6, q7, q8, q9⟩
            · have := hold i b ⟨q, q7⟩ hb
              refine .inl ⟨q, q7, this, hlt i q b q7 this, fun j0 h0 => ?_⟩
              have e := nodup_snd m3 (hmem h0) (hmem q5)
              subst e
              rw [q1]; simp
            · rw [q3] at hb
              exact .inr ⟨j, q5, q6, by rw [q1]; simp, hb⟩
          · have := hold i b ⟨g, q1⟩ hb
            exact .inl ⟨g, q1, this, hlt i g b q1 this, fun j0 h0 => absurd h0 (q2 j0)⟩
      have hcross : ∀ i1 b j, (∃ q, lkf s.H i1 = some q) → ρ i1 = some (some b) → b < w.heap.size → (∀ j0, lkf m j0 = some i1 → lkf H' j0 ≠ none) → lkf m j = none → lkf H' j ≠ none → ρ' j = some (some b) → False := by
        rintro i1 b j ⟨q, a1⟩ a2 a3 a4 b2 b3 b4
        cases hs : lkf H' j with
        | none => exact absurd hs b3
        | some sg =>
          rcases (hown' j sg b hs b4).2.1 with h | ⟨j0, h⟩
          · omega
          · obtain ⟨i0, g0, q1, q2, q3⟩ := hcell j0 b h
            have e := rl.inj i1 i0 b (by rw [a1]; simp) (by rw [q2]; simp) a2 q3
            subst e
            have e2 := hinj' j j0 b b3 (a4 j0 q1) b4 (hρ j0 _ h)
            subst e2
            rw [q1] at b2; cases b2
      intro i1 i2 b h1 h2 hb1 hb2
      rcases hcase i1 b h1 hb1 with ⟨q, a1, a2, a3, a4⟩ | ⟨j, a1, a2, a3, a4⟩ <;> rcases hcase i2 b h2 hb2 with ⟨q', b1, b2, b3, b4⟩ | ⟨j', b1, b2, b3, b4⟩
      · exact rl.inj i1 i2 b (by rw [a1]; simp) (by rw [b1]; simp) a2 b2
      · exact (hcross i1 b j' ⟨q, a1⟩ a2 a3 a4 b2 b3 b4).elim
      · exact (hcross i2 b j ⟨q', b1⟩ b2 b3 b4 a2 a3 a4).elim
      · have := hinj' j j' b a3 b3 a4 b4
        subst this
        have e1 := nodup_fst n4 a1
        have e2 := nodup_fst n4 b1
        rw [e1] at e2; cases e2; rfl
    · intro i hi
      by_cases h : i < s.nx
      · omega
      · simp only [ρ2, if_neg h] at hi
        cases hs : lkf (nw.map fun p => (p.2, p.1)) i with
        | none => simp [hs] at hi
        | some j =>
          exact (n1 _ (swap_get hs)).2
    · intro b hb hM
      refine p.ext b (Nat.lt_of_lt_of_le hb rl.lo) fun h => ?_
      rcases (hMset b h).2 with h1 | h1
      · omega
      · exact hM h1
  exact h E hE _ _ (Rel.putN (s := s) hrel2 (by rw [← hnt]; exact hd) hv2)
attribute [go_sem] argX argsX heapRd updHd ufF ufH mapH
end Go.Lv
