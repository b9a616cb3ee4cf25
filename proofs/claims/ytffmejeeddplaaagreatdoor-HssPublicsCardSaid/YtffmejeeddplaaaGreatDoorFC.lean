/- The abstract walk: an own kit for walks over this program (part FC). -/
import Derived.Test.YtffmejeeddplaaaGreatDoorFB
set_option linter.all false
namespace Go.Lv
open Go
inductive Stk where
  | done (Q : St → Prop)
  | seq (r : List C) (k : Stk)
  | blk (id : Nat) (k : Stk)
  | lp (J : St → Prop) (k : Stk)
  | raw (Φ : Exit → Act → World → Prop)
  | fin (Q : Exit → St → Prop)
  | lpW (N : Act → World → Prop) (k : Stk)
def conc (E : Ent) : Stk → Exit → Act → World → Prop
  | .done Q => fun e a w => (e = .normal ∨ e = .ret) ∧ ∃ s, Gam E s a w ∧ Q s
  | .seq r k => Exit.then (fun a w => cwp E.P r (conc E k) a w) (conc E k)
  | .blk id k => Exit.inBlock id (conc E k)
  | .lp J k => Exit.then (fun a w => ∃ s, Gam E s a w ∧ J s) (conc E k)
  | .raw Φ => Φ
  | .fin Q => fun e a w => ∃ s, Gam E s a w ∧ Q e s
  | .lpW N k => Exit.then N (conc E k)
structure Kt where
  P : Program
  Gl : List (Nat × List AV)
  Ct : List (Nat × (List AV → R))
  nt : Nat
  lent : Ent → Prop
structure Kt.ok (κ : Kt) (E : Ent) : Prop where
  P : E.P = κ.P
  Gl : E.Gl = κ.Gl
  nt : E.nt = κ.nt
  lent : κ.lent E
def AW (κ : Kt) (l : List C) (k : Stk) (s : St) : Prop := ∀ E : Ent, κ.ok E → ∀ a w, Gam E s a w → cwp κ.P l (conc E k) a w
def CtOK (P : Program) (Gl : List (Nat × List AV)) (Ct : List (Nat × (List AV → R))) : Prop := ∀ n f, lkf Ct n = some f → ∀ as, (f as).1 → Fun P Gl n as (f as).2
inductive Res where
  | go (p : Prop) (l : List C) (k : Stk) (s : St)
  | br (t : Bool) (l1 : List C) (s1 : St) (l2 : List C) (s2 : St) (k : Stk)
  | dr (p : Prop) (Hr : List (Nat × Seg)) (fl : List I) (l : List C) (k : Stk) (s : St)
  | stop (P : Prop)
def mkQ (nt d : Nat) (r : R) (l : List C) (k : Stk) (s : St) : Res := .go (d < nt ∧ r.1) l k (s.put d r.2)
inductive R4 where
  | ok (p : Prop) (v : AV) (H : List (Nat × Seg)) (n : Nat)
  | no
  | un
def mkV (o : Bool) (r : R) (H : List (Nat × Seg)) (n : Nat) : R4 := .ok (r.1 ∧ (o = false ∨ cln r.2 = true)) r.2 H n
def fzd (κ : Kt) (d : Nat) : Bool := match lkf κ.Ct (1000000 + d) with
  | some _ => true
  | none => false
def alV (f : Bool) (p : Prop) (nx n z : Nat) (seg : Seg) (H : List (Nat × Seg)) : R4 := match f with
  | true => .ok p (frz [(nx, seg)] 8 true (.sl nx 0 n z)) H (nx + 1)
  | false => .ok p (.sl nx 0 n z) ((nx, seg) :: H) (nx + 1)
def stV (κ : Kt) (F : List (Nat × AV)) (Hc H : List (Nat × Seg)) (nx : Nat) (i : I) : R4 := match i with
  | .al _ t => .ok ((tiOf κ.P t).zok = true) (.ptr nx 0) ((nx, ⟨(tiOf κ.P t).zero, true⟩) :: H) (nx + 1)
  | .bx _ _ x => .ok ((evx κ.Gl F x).cell = true) (.ptr nx 0) ((nx, ⟨(evx κ.Gl F x).cells, true⟩) :: H) (nx + 1)
  | .bsl d t n ps => match (tiOf κ.P t).d with
    | .sl e => alV (fzd κ d) ((tiOf κ.P e).zok = true ∧ (tiOf κ.P e).d.ok = true ∧ 0 < (tiOf κ.P e).size ∧ n * (tiOf κ.P e).size ≤ 16777216 ∧ (bslCells (tiOf κ.P) e n (evp κ.Gl F ps)).1) nx n (tiOf κ.P e).size ⟨(bslCells (tiOf κ.P) e n (evp κ.Gl F ps)).2, true⟩ H
    | _ => .no
  | .msl d t x y => match (tiOf κ.P t).d, idx (evx κ.Gl F x), idx (evx κ.Gl F y) with
    | .sl e, some n, some c => alV (fzd κ d) ((tiOf κ.P e).zok = true ∧ (tiOf κ.P e).size = 1 ∧ 0 ≤ n ∧ n ≤ c ∧ ((tiOf κ.P e).bytes : Int) * c ≤ 281474976710656 ∧ c ≤ 9223372036854775807) nx n.toNat 1 ⟨List.replicate n.toNat ((tiOf κ.P e).zero.getD 0 .junk), true⟩ H
    | _, _, _ => .no
  | .st t p x => match evx κ.Gl F p with
    | .ptr id off => match lkf H id with
      | some seg => .ok ((tiOf κ.P t).d.ok = true ∧ (evx κ.Gl F x).cell = true ∧ (evx κ.Gl F x).cells.length = (tiOf κ.P t).size ∧ 0 < (tiOf κ.P t).size ∧ off + (evx κ.Gl F x).cells.length ≤ seg.cells.length) .junk
          ((id, ⟨wr seg.cells off (evx κ.Gl F x), seg.fr⟩) :: ers H id) nx
      | none => .no
    | _ => .no
  | .app _ t u x y => match (tiOf κ.P t).d with
    | .sl e => .ok (t = u ∧ (tiOf κ.P e).zok = true ∧ 0 < (tiOf κ.P e).size ∧ (appB H (tiOf κ.P e).size (evx κ.Gl F x)).1 ∧ (srcC H (tiOf κ.P e).size (evx κ.Gl F y)).1 ∧
          ((appB H (tiOf κ.P e).size (evx κ.Gl F x)).2.1 + (srcC H (tiOf κ.P e).size (evx κ.Gl F y)).2.1) * (tiOf κ.P e).bytes ≤ 140737488355328 ∧
          (appB H (tiOf κ.P e).size (evx κ.Gl F x)).2.1 + (srcC H (tiOf κ.P e).size (evx κ.Gl F y)).2.1 ≤ 9223372036854775807)
        (.sl nx 0 ((appB H (tiOf κ.P e).size (evx κ.Gl F x)).2.1 + (srcC H (tiOf κ.P e).size (evx κ.Gl F y)).2.1) (tiOf κ.P e).size)
        ((nx, ⟨(appB H (tiOf κ.P e).size (evx κ.Gl F x)).2.2.1 ++ (srcC H (tiOf κ.P e).size (evx κ.Gl F y)).2.2, (appB H (tiOf κ.P e).size (evx κ.Gl F x)).2.2.2⟩) :: Lv.appH H (evx κ.Gl F x)) (nx + 1)
    | _ => .no
  | .cpy _ t _ x y => match (tiOf κ.P t).d, evx κ.Gl F x with
    | .sl e, .sl id off n z => match lkf H id with
      | some seg => .ok ((tiOf κ.P e).d.ok = true ∧ 0 < (tiOf κ.P e).size ∧ z = (tiOf κ.P e).size ∧ off + n * z ≤ seg.cells.length ∧ (srcC H z (evx κ.Gl F y)).1)
          (.i (if (srcC H z (evx κ.Gl F y)).2.1 ≤ n then (srcC H z (evx κ.Gl F y)).2.1 else n : Nat))
          ((id, ⟨spc seg.cells off ((srcC H z (evx κ.Gl F y)).2.2.take ((if (srcC H z (evx κ.Gl F y)).2.1 ≤ n then (srcC H z (evx κ.Gl F y)).2.1 else n) * z)), seg.fr⟩) :: ers H id) nx
      | none => .no
    | _, _ => .no
  | .call _ f as => match evx κ.Gl F f with
    | .fn (.func n) fs cs => match lkf κ.Ct n with
      | some g => mkV (own.ownL (fs ++ evs κ.Gl F as ++ cs)) (g ((fs ++ evs κ.Gl F as ++ cs).map (frz Hc 8 false))) H nx
      | none => .un
    | _ => .no
  | .clz _ _ => .un
  | .inv _ _ _ _ => .un
  | _ => .no
def pt (F : List (Nat × AV)) (d : Option Nat) (v : AV) : List (Nat × AV) := match d with
  | some d => (d, v) :: ers F d
  | none => F
def okd (nt : Nat) : Option Nat → Prop
  | some d => d < nt
  | none => True
def un4 (κ : Kt) (i : I) (l : List C) (k : Stk) (s : St) : R4 → Res
  | .ok p v H n => .go (okd κ.nt (dI i) ∧ p) l k ⟨pt s.F (dI i) v, H, n⟩
  | .no => .stop False
  | .un => .stop (AW κ (.o i :: l) k s)
def stE (κ : Kt) (i : I) (l : List C) (k : Stk) (s : St) : Res := un4 κ i l k s (stV κ s.F s.H s.H s.nx i)
def rst (F : List (Nat × AV)) : List Nat → List (Nat × AV)
  | [] => []
  | t :: ts => (t, lkd .junk F t) :: rst F ts
def subH (H : List (Nat × Seg)) : List (Nat × Seg) → Prop
  | [] => True
  | (id, s) :: r => lkf H id = some s ∧ subH H r
def qR4 (r : R) (H : List (Nat × Seg)) (n : Nat) : R4 := .ok r.1 r.2 H n
def dV' (κ : Kt) (Hr : List (Nat × Seg)) (F : List (Nat × AV)) (H : List (Nat × Seg)) (nx : Nat) (i : I) : R4 := match qd i with
  | some _ => qR4 (q (tiOf κ.P) κ.Gl Hr F i) H nx
  | none => stV κ F Hr H nx i
def isU : AV → Bool
  | .tup cs => cs.isEmpty
  | _ => false
theorem isU_T {x : AV} (h : isU x = true) : x = .tup [] := by
  cases x <;> simp [isU] at h
  subst h; rfl
def dV (κ : Kt) (Hr : List (Nat × Seg)) (s : St) : I → R4
  | .gd g b i => match lkd .junk s.F g with
    | .b t => if t = b then dV' κ Hr (rst s.F (g :: slI i)) s.H s.nx i else .ok True (.tup []) s.H s.nx
    | x => match isU x with
      | true => .ok True (.tup []) s.H s.nx
      | false => .no
  | i => dV' κ Hr (rst s.F (slI i)) s.H s.nx i
def keepH (Hr H : List (Nat × Seg)) : Bool → Prop
  | true => subH H Hr
  | false => True
def dr4 (κ : Kt) (Hr : List (Nat × Seg)) (i : I) (fl : List I) (l : List C) (k : Stk) (s : St) : R4 → Res
  | .ok p v H n => .dr (okd κ.nt (dI i) ∧ p ∧ keepH Hr H (isE i)) Hr fl l k ⟨pt s.F (dI i) v, H, n⟩
  | _ => .stop False
def dsem (κ : Kt) (Hr : List (Nat × Seg)) : List I → St → (St → Prop) → Prop
  | [], s, K => K s
  | i :: fl, s, K => match dV κ Hr s i with
    | .ok p v H n => okd κ.nt (dI i) ∧ p ∧ keepH Hr H (isE i) ∧ dsem κ Hr fl ⟨pt s.F (dI i) v, H, n⟩ K
    | _ => False
def isYl (κ : Kt) (F : List (Nat × AV)) : I → Bool
  | .call _ f _ => match evx κ.Gl F f with
    | .fn (.yield _) _ _ => true
    | _ => false
  | _ => false
def st1 (κ : Kt) : List C → Stk → St → Res
  | [], .done Q, s => .stop (Q s)
  | [], .seq r k, s => .go True r k s
  | [], .blk _ k, s => .go True [] k s
  | [], .lp J _, s => .stop (J s)
  | [], .raw Φ, s => .stop (AW κ [] (.raw Φ) s)
  | [], .fin Q, s => .stop (Q .normal s)
  | [], .lpW N k, s => .stop (AW κ [] (.lpW N k) s)
  | .o (.gd g b i) :: l, k, s => match lkd .junk s.F g with
    | .b p => .br (if b then p else !p) (.o i :: l) s l (match dI i with | some d => if d < κ.nt then s.put d (.tup []) else s | none => s) k
    | x => match isU x with
      | true => .go True l k (match dI i with | some d => if d < κ.nt then s.put d (.tup []) else s | none => s)
      | false => .stop False
  | .y (.gd g b i) :: l, k, s => match lkd .junk s.F g with
    | .b p => .br (if b then p else !p) (.y i :: l) s l (match dI i with | some d => if d < κ.nt then s.put d (.tup []) else s | none => s) k
    | x => match isU x with
      | true => .go True l k (match dI i with | some d => if d < κ.nt then s.put d (.tup []) else s | none => s)
      | false => .stop False
  | .y i :: l, k, s => match isYl κ s.F i with
    | true => .stop (AW κ (.y i :: l) k s)
    | false => .go True (.o i :: l) k s
  | .o i :: l, k, s => match qd i with
    | some d => mkQ κ.nt d (q (tiOf κ.P) κ.Gl s.H s.F i) l k s
    | none => stE κ i l k s
  | .ite x A B :: l, k, s => match evx κ.Gl s.F x with
    | .b t => .br t A s B s (.seq l k)
    | _ => .stop False
  | .blk id b :: l, k, s => .go True b (.blk id (.seq l k)) s
  | .ret :: _, .done Q, s => .stop (Q s)
  | .ret :: _, .seq _ k, s => .go True [.ret] k s
  | .ret :: _, .blk _ k, s => .go True [.ret] k s
  | .ret :: _, .lp _ k, s => .go True [.ret] k s
  | .ret :: _, .raw Φ, s => .stop (AW κ [.ret] (.raw Φ) s)
  | .ret :: _, .fin Q, s => .stop (Q .ret s)
  | .ret :: _, .lpW _ k, s => .go True [.ret] k s
  | .ex _ :: _, .done _, _ => .stop False
  | .ex id :: _, .seq _ k, s => .go True [.ex id] k s
  | .ex id :: _, .blk id' k, s => if id = id' then .go True [] k s else .go True [.ex id] k s
  | .ex id :: _, .lp _ k, s => .go True [.ex id] k s
  | .ex id :: _, .raw Φ, s => .stop (AW κ [.ex id] (.raw Φ) s)
  | .ex id :: _, .fin Q, s => .stop (Q (.exit id) s)
  | .ex id :: _, .lpW _ k, s => .go True [.ex id] k s
  | .dr ok m ops :: l, k, s => .dr (ok = true) s.H (ops.take m) ((ops.drop m).map toC ++ l) k s
  | c :: l, k, s => .stop (AW κ (c :: l) k s)
open Classical in
def run (κ : Kt) : Nat → Res → Prop
  | _, .stop P => P
  | 0, .go p l k s => p ∧ AW κ l k s
  | n + 1, .go p l k s => if p then run κ n (st1 κ l k s) else False
  | 0, .br t l1 s1 l2 s2 k => (t = true → AW κ l1 k s1) ∧ (t = false → AW κ l2 k s2)
  | n + 1, .br t l1 s1 l2 s2 k => (t = true → run κ n (st1 κ l1 k s1)) ∧ (t = false → run κ n (st1 κ l2 k s2))
  | 0, .dr p Hr fl l k s => p ∧ dsem κ Hr fl s fun s' => AW κ l k s'
  | n + 1, .dr p _ [] l k s => if p then run κ n (.go True l k s) else False
  | n + 1, .dr p Hr (i :: fl) l k s => if p then run κ n (dr4 κ Hr i fl l k s (dV κ Hr s i)) else False
def Res.sem (κ : Kt) : Res → Prop
  | .go p l k s => p ∧ AW κ l k s
  | .br t l1 s1 l2 s2 k => (t = true → AW κ l1 k s1) ∧ (t = false → AW κ l2 k s2)
  | .stop P => P
  | .dr p Hr fl l k s => p ∧ dsem κ Hr fl s fun s' => AW κ l k s'
end Go.Lv
namespace Go.Lv
open Go
def ng : I → Bool
  | .gd _ _ _ => false
  | _ => true
theorem cI_ng {ops : Array Oper} {o : Oper} {i : I} (h : cI ops o = some i) (hn : ng i = true) : o.guard = none ∧ cOp o.dst o.op = some i := by
  unfold cI at h
  split at h
  · rename_i hg; exact ⟨hg, h⟩
  · split at h
    · simp only [Option.some.injEq] at h; subst h; simp [ng] at hn
    · cases h
theorem opW_of {P : Program} {i : I} {a : Act} {w : World} {next : Act → World → Prop} {Q : Exit → Act → World → Prop} (hn : ng i = true)
    (h : ∀ o : Oper, cOp o.dst o.op = some i → ∃ u w', ((execOp a.eval o).run P w = .ok (.value u) w' ∨ ((execOp a.eval o).run P w = .ok .skip w' ∧ u = undef)) ∧ next (a.put o.dst u) w') : opW P i next Q a w := by
  intro ops o hc
  obtain ⟨hg, hc⟩ := cI_ng hc hn
  have hw : Region.wanted o (yielded ops a.tmps) = true := by simp [Region.wanted, hg]
  rw [if_pos hw]
  obtain ⟨u, w', h1, h2⟩ := h o hc
  unfold Oper.wp
  rcases h1 with h1 | ⟨h1, rfl⟩
  · rw [h1]; exact h2
  · rw [h1]; exact h2
section
variable {E : Ent} {s : St} {ρ : Nat → Option (Option Nat)} {N : Nat → Prop} {a : Act} {w : World}
theorem call_run {P : Program} (ev : Operand → Value) {dst : Option Tmp} {type : TypeId} {pos : String} {after : Array Edge} {guard : Option (Nat × Bool)} {f : Operand} {args : Array Operand} {tys : Array TypeId} {w : World}
    {n : Nat} {fs cs : Array Value} (hf : ev f = .func (.func n) fs cs) (hi : isFn P n) :
    (execOp ev ⟨dst, .call ⟨.value f, args, tys⟩, type, pos, after, guard⟩).run P w = .ok (.enter n (fs ++ args.map ev ++ cs)) w := by
  obtain ⟨fn, c, h1, h2, h3⟩ := hi
  have hp : (program).run P w = .ok P w := rfl
  have h3' : ¬ fn.name = "runtime.NumGoroutine" := by simpa using h3
  simp [execOp, resolve, Deferred.ofValue, hf, invoke, callFunc, hp, h1, h2, h3']
end
theorem AW_o {κ : Kt} {i : I} {l : List C} {k : Stk} {s : St}
    (h : ∀ (E : Ent), κ.ok E → ∀ ρ N a w, Rel E s ρ N a w → opW E.P i (fun a w => cwp κ.P l (conc E k) a w) (Exit.then (fun a w => cwp κ.P l (conc E k) a w) (conc E k)) a w) : AW κ (.o i :: l) k s := by
  intro E hE a w ⟨ρ, N, r⟩
  simp only [cwp, cw1]
  have := h E hE ρ N a w r
  rw [hE.P] at this
  exact this
theorem sQ {κ : Kt} {i : I} {d : Nat} {l : List C} {k : Stk} {s : St} (hn : ng i = true) (hd : qd i = some d) (h : (mkQ κ.nt d (q (tiOf κ.P) κ.Gl s.H s.F i) l k s).sem κ) : AW κ (.o i :: l) k s := by
  simp only [mkQ, Res.sem] at h
  obtain ⟨⟨h1, h2⟩, h3⟩ := h
  refine AW_o fun E hE ρ N a w r => opW_of hn fun o hc => ?_
  obtain ⟨hP, hG, hnt, hl⟩ := id hE
  rw [← hP, ← hG] at h2 h3
  obtain ⟨e, u, k1, k2⟩ := q_sound r hc hd h2
  refine ⟨u, w, .inl k1, ?_⟩
  rw [e]
  exact h3 E hE _ _ ⟨ρ, N, r.put (by rw [hnt]; exact h1) k2⟩
theorem cOp_al {d : Option Tmp} {op : Op} {d' t : Nat} (h : cOp d op = some (.al d' t)) : d = some d' ∧ op = .alloc t := by
  cases op <;> cases d <;> simp [cOp] at h <;> (try exact absurd (clzO_is h) (by rintro ⟨_, _, h, _⟩; cases h)) <;> try exact ⟨congrArg some h.1, congrArg _ h.2⟩
  all_goals (rename_i c d; obtain ⟨ce, as, ts⟩ := c; cases ce <;> simp at h; try (unfold cBlt at h; split at h <;> simp at h))
theorem cOp_bx {d : Option Tmp} {op : Op} {d' t : Nat} {x : X} (h : cOp d op = some (.bx d' t x)) : d = some d' ∧ ∃ x', op = .box t x' ∧ cX x' = x := by
  cases op <;> cases d <;> simp [cOp] at h <;> (try exact absurd (clzO_is h) (by rintro ⟨_, _, h, _⟩; cases h)) <;> try exact ⟨congrArg some h.1, _, by rw [h.2.1], h.2.2⟩
  all_goals (rename_i c d; obtain ⟨ce, as, ts⟩ := c; cases ce <;> simp at h; try (unfold cBlt at h; split at h <;> simp at h))
theorem cOp_bsl {d : Option Tmp} {op : Op} {d' t n : Nat} {ps : List (Nat × X)} (h : cOp d op = some (.bsl d' t n ps)) : d = some d' ∧ ∃ qs, op = .buildSlice t n qs ∧ (qs.toList.map fun p => (p.1, cX p.2)) = ps := by
  cases op <;> cases d <;> simp [cOp] at h <;> (try exact absurd (clzO_is h) (by rintro ⟨_, _, h, _⟩; cases h)) <;> try exact ⟨congrArg some h.1, _, by rw [h.2.1, h.2.2.1], h.2.2.2⟩
  all_goals (rename_i c d; obtain ⟨ce, as, ts⟩ := c; cases ce <;> simp at h; try (unfold cBlt at h; split at h <;> simp at h))
theorem cOp_msl {d : Option Tmp} {op : Op} {d' t : Nat} {x y : X} (h : cOp d op = some (.msl d' t x y)) : d = some d' ∧ ∃ x' y', op = .makeSlice t x' y' ∧ cX x' = x ∧ cX y' = y := by
  cases op <;> cases d <;> simp [cOp] at h <;> (try exact absurd (clzO_is h) (by rintro ⟨_, _, h, _⟩; cases h)) <;> try exact ⟨congrArg some h.1, _, _, by rw [h.2.1], h.2.2.1, h.2.2.2⟩
  all_goals (rename_i c d; obtain ⟨ce, as, ts⟩ := c; cases ce <;> simp at h; try (unfold cBlt at h; split at h <;> simp at h))
theorem cOp_st {d : Option Tmp} {op : Op} {t : Nat} {x y : X} (h : cOp d op = some (.st t x y)) : d = none ∧ ∃ x' y', op = .store t x' y' ∧ cX x' = x ∧ cX y' = y := by
  cases op <;> cases d <;> simp [cOp] at h <;> (try exact absurd (clzO_is h) (by rintro ⟨_, _, h, _⟩; cases h)) <;> try exact ⟨rfl, _, _, by rw [h.1], h.2.1, h.2.2⟩
  all_goals (rename_i c d; obtain ⟨ce, as, ts⟩ := c; cases ce <;> simp at h; try (unfold cBlt at h; split at h <;> simp at h))
theorem cOp_call {d : Option Tmp} {op : Op} {d' : Nat} {f : X} {as : List X} (h : cOp d op = some (.call d' f as)) : d = some d' ∧ ∃ f' args tys, op = .call ⟨.value f', args, tys⟩ ∧ cX f' = f ∧ args.toList.map cX = as := by
  cases op <;> cases d <;> simp [cOp] at h <;> (try exact absurd (clzO_is h) (by rintro ⟨_, _, h, _⟩; cases h))
  rename_i c d; obtain ⟨ce, as, ts⟩ := c; cases ce <;> simp at h
  · exact ⟨congrArg some h.1, _, _, _, rfl, h.2.1, by simpa using h.2.2⟩
  · unfold cBlt at h; split at h <;> simp at h
theorem cOp_app {d : Option Tmp} {op : Op} {d' t u : Nat} {x y : X} (h : cOp d op = some (.app d' t u x y)) : d = some d' ∧ ∃ x' y', op = .call ⟨.builtin .append, #[x', y'], #[t, u]⟩ ∧ cX x' = x ∧ cX y' = y := by
  cases op <;> cases d <;> simp [cOp] at h <;> (try exact absurd (clzO_is h) (by rintro ⟨_, _, h, _⟩; cases h))
  rename_i c d; obtain ⟨ce, as, ts⟩ := c; cases ce <;> simp at h
  unfold cBlt at h; split at h <;> simp at h
  rename_i x y t u ha ht
  obtain rfl : as = #[x, y] := Array.toList_inj.1 (by simpa using ha)
  obtain rfl : ts = #[t, u] := Array.toList_inj.1 (by simpa using ht)
  obtain ⟨rfl, rfl, rfl, h1, h2⟩ := h
  exact ⟨rfl, _, _, rfl, h1, h2⟩
theorem cOp_cpy {d : Option Tmp} {op : Op} {d' t u : Nat} {x y : X} (h : cOp d op = some (.cpy d' t u x y)) : d = some d' ∧ ∃ x' y', op = .call ⟨.builtin .copy, #[x', y'], #[t, u]⟩ ∧ cX x' = x ∧ cX y' = y := by
  cases op <;> cases d <;> simp [cOp] at h <;> (try exact absurd (clzO_is h) (by rintro ⟨_, _, h, _⟩; cases h))
  rename_i c d; obtain ⟨ce, as, ts⟩ := c; cases ce <;> simp at h
  unfold cBlt at h; split at h <;> simp at h
  rename_i x y t u ha ht
  obtain rfl : as = #[x, y] := Array.toList_inj.1 (by simpa using ha)
  obtain rfl : ts = #[t, u] := Array.toList_inj.1 (by simpa using ht)
  obtain ⟨rfl, rfl, rfl, h1, h2⟩ := h
  exact ⟨rfl, _, _, rfl, h1, h2⟩
theorem Rel.putN {E : Ent} {s : St} {ρ : Nat → Option (Option Nat)} {N : Nat → Prop} {a : Act} {w : World} {H' : List (Nat × Seg)} {n' : Nat} (r : Rel E { s with H := H', nx := n' } ρ N a w) {d : Nat} (hd : d < E.nt) {x : AV} {v : Value} (hx : G x (E.cx w N ρ) v) :
    Gam E { F := (d, x) :: ers s.F d, H := H', nx := n' } (a.put (some d) v) w := ⟨ρ, N, r.put hd hx⟩
theorem value_run' {P : Program} {w w' : World} {sm : Sem Value} {u : Value} (h : sm.run P w = .ok u w') : ((do pure (Next.value (← sm))) : Sem Next).run P w = .ok (.value u) w' := by
  rw [Sem.run_bind, h]; rfl
theorem Rel.call' {E : Ent} {s : St} {ρ : Nat → Option (Option Nat)} {N : Nat → Prop} {a : Act} {w : World} (r : Rel E s ρ N a w) {Hc : List (Nat × Seg)} (hc : ∀ id, lkf Hc id = none ∨ lkf Hc id = lkf s.H id)
    {n : Nat} {xs : List AV} {vs : List Value} {y : AV} (hf : Fun E.P E.Gl n (xs.map (frz Hc 8 false)) y) (hx : GL xs (E.cx w N ρ) vs) (ho : own.ownL xs = false ∨ cln y = true) :
    Calls E.P n vs.toArray w fun e w' => ∃ v N', e = .returned v ∧ Rel E s ρ N' a w' ∧ G y (E.cx w' N' ρ) v := by
  have sub : ∀ id seg, lkf Hc id = some seg → lkf s.H id = some seg := fun id seg h => by
    rcases hc id with h' | h'
    · rw [h'] at h; cases h
    · rw [← h']; exact h
  have r0 : Rel E { s with H := Hc } ρ N a w := { r with
    hp := fun id seg h => r.hp id seg (sub id seg h)
    own := fun id seg b h hb => r.own id seg b (sub id seg h) hb
    inj := fun i j b hi hj => r.inj i j b (by rcases hc i with h' | h'; exact absurd h' hi; rw [← h']; exact hi) (by rcases hc j with h' | h'; exact absurd h' hj; rw [← h']; exact hj) }
  refine Calls.mono (r0.callP hf hx ho) ?_
  rintro e w' ⟨v, N', rfl, p, g⟩
  exact ⟨v, _, rfl, r.called p.lo p.ext p.os p.tape p.output p.le p.lt p.fr, g⟩
theorem Rel.frz1 {E : Ent} {s : St} {ρ ρ' : Nat → Option (Option Nat)} {N : Nat → Prop} {a : Act} {w w' : World} (r : Rel E s ρ N a w) {seg : Seg} {n z : Nat} {v : Value} (hfr : seg.fr = true)
    (k2 : Rel E { s with H := (s.nx, seg) :: s.H, nx := s.nx + 1 } ρ' N a w') (k3 : G (.sl s.nx 0 n z) (E.cx w' N ρ') v) :
    ∃ N', Rel E { s with nx := s.nx + 1 } ρ' N' a w' ∧ G (frz [(s.nx, seg)] 8 true (.sl s.nx 0 n z)) (E.cx w' N' ρ') v := by
  have hnew : lkf ((s.nx, seg) :: s.H) s.nx = some seg := by simp [lkf]
  have hold : ∀ id, lkf s.H id ≠ none → id ≠ s.nx ∧ lkf ((s.nx, seg) :: s.H) id = lkf s.H id := by
    intro id h
    have hne : id ≠ s.nx := by
      rintro rfl
      cases hs : lkf s.H s.nx with
      | none => exact h hs
      | some g =>
        have : ρ s.nx ≠ none := by
          rcases r.hp _ g hs with ⟨k1, _⟩ | ⟨b, c, T, k1, _⟩
          · rw [show ρ s.nx = some none from k1]; simp
          · rw [show ρ s.nx = some (some b) from k1]; simp
        exact absurd (r.nx _ this) (Nat.lt_irrefl _)
    refine ⟨hne, ?_⟩
    have hb : Nat.beq s.nx id = false := by cases hb : Nat.beq s.nx id; rfl; exact absurd (Nat.eq_of_beq_eq_true hb).symm hne
    simp [lkf, hb]
  let N' : Nat → Prop := fun b => N b ∨ ∃ id sg, lkf [(s.nx, seg)] id = some sg ∧ ρ' id = some (some b)
  have hN' : ∀ b, N' b → N b ∨ ρ' s.nx = some (some b) := by
    rintro b (h | ⟨id, sg, h1, h2⟩)
    · exact .inl h
    · simp only [lkf] at h1
      cases hb : Nat.beq s.nx id with
      | true => have := Nat.eq_of_beq_eq_true hb; subst this; exact .inr h2
      | false => simp [hb] at h1
  have hblk : ∀ b, ρ' s.nx = some (some b) → b < w'.heap.size ∧ E.fb ≤ b ∧ (E.w0.heap.size ≤ b ∨ b ∈ E.M) := by
    intro b hb
    refine ⟨?_, (k2.own _ seg b hnew hb).2.2 hfr, (k2.own _ seg b hnew hb).2.1⟩
    rcases k2.hp _ seg hnew with ⟨h5, _⟩ | ⟨b', c, T, h5, h6, _⟩
    · rw [show ρ' s.nx = some none from h5] at hb; cases hb
    · rw [show ρ' s.nx = some (some b') from h5] at hb; cases hb
      exact (Array.getElem?_eq_some_iff.1 h6).1
  have cle : (E.cx w' N ρ').le (E.cx w' N' ρ') := ⟨fun _ h => .inl h, fun _ _ => rfl, fun _ _ h => h, fun _ h => h, fun _ c T f h => ⟨c, T, f, h, rfl⟩⟩
  refine ⟨N', ⟨?_, fun b hb => .inl (k2.N0 b hb), ?_, ?_, fun t => G_mono _ cle (k2.fr t), ?_, ?_, ?_, k2.nx, k2.lo, k2.ext, k2.os, k2.tape, k2.output, k2.df, k2.sz, k2.ln, k2.s0, k2.fbl⟩, ?_⟩
  · intro b hb
    rcases hN' b hb with h | h
    · exact k2.Nlt b h
    · exact (hblk b h).1
  · intro b hb
    rcases hN' b hb with h | h
    · exact k2.Nfr b h
    · exact .inr (hblk b h).2
  · intro g cs h
    obtain ⟨h1, h2⟩ := k2.glob g cs h
    exact ⟨.inl h1, GC_ro cs (c := (E.cx w' N ρ').rf) (c' := (E.cx w' N' ρ').rf) cle.toRf h1 h2⟩
  · intro id sg h
    obtain ⟨h1, h2⟩ := hold id (by rw [h]; simp)
    rcases k2.hp id sg (h2.trans h) with h | ⟨b, c, T, q1, q2, q3⟩
    · exact .inl h
    · exact .inr ⟨b, c, T, q1, q2, GC_mono cle (fun _ => rfl) _ q3⟩
  · intro id sg b h hb
    obtain ⟨h1, h2⟩ := hold id (by rw [h]; simp)
    obtain ⟨o1, o2, o3⟩ := k2.own id sg b (h2.trans h) hb
    refine ⟨fun hn => ?_, o2, o3⟩
    rcases hN' b hn with h3 | h3
    · exact o1 h3
    · exact h1 (k2.inj id s.nx b (by rw [h2, h]; simp) (by rw [hnew]; simp) hb h3)
  · intro i j b hi hj hbi hbj
    exact k2.inj i j b (by rw [(hold i hi).2]; exact hi) (by rw [(hold j hj).2]; exact hj) hbi hbj
  · have hp : HeapOK (E.cx w' N ρ') [(s.nx, seg)] lkf := by
      intro id sg h
      simp only [lkf] at h
      cases hb : Nat.beq s.nx id with
      | true => have := Nat.eq_of_beq_eq_true hb; subst this; simp only [hb, cond_true, Option.some.injEq] at h; subst h; exact k2.hp _ _ hnew
      | false => simp [hb] at h
    have hfr2 : ∀ id sg b, lkf [(s.nx, seg)] id = some sg → (E.cx w' N ρ').ρ id = some (some b) → sg.fr = true → (E.cx w' N ρ').Fb b := by
      intro id sg b h hb hf
      simp only [lkf] at h
      cases hbb : Nat.beq s.nx id with
      | true => have := Nat.eq_of_beq_eq_true hbb; subst this; exact (hblk b hb).2.1
      | false => simp [hbb] at h
    have := frz_sound hp hfr2 8 true _ _ v (.inl rfl) k3
    exact G_mono (c := (E.cx w' N ρ').rd [(s.nx, seg)] true) (c' := E.cx w' N' ρ') _ ⟨fun _ h => h, fun _ _ => rfl, fun _ _ h => (by simp [Cx.rd] at h), fun _ h => h.2, fun _ c T f h => ⟨c, T, f, h, rfl⟩⟩ this
theorem stV_sound {κ : Kt} (hct : CtOK κ.P κ.Gl κ.Ct) {E : Ent} (hE : κ.ok E) {s : St} {ρ : Nat → Option (Option Nat)} {N : Nat → Prop} {a : Act} {w : World} (r : Rel E s ρ N a w) {Fm : List (Nat × AV)} {Hc : List (Nat × Seg)}
    (hF : ∀ t, lkd .junk Fm t = .junk ∨ lkd .junk Fm t = lkd .junk s.F t) (hc : ∀ id, lkf Hc id = none ∨ lkf Hc id = lkf s.H id) {i : I} {p : Prop} {v : AV} {H' : List (Nat × Seg)} {n' : Nat}
    (h : stV κ Fm Hc s.H s.nx i = .ok p v H' n') (hd : okd κ.nt (dI i)) (hp : p) {next : Act → World → Prop} {Q : Exit → Act → World → Prop} (hn : ∀ a' w', Gam E ⟨pt s.F (dI i) v, H', n'⟩ a' w' → next a' w') : opW E.P i next Q a w := by
  have hfm : ∀ t, G (lkd .junk Fm t) (E.cx w N ρ) (a.tmps.getD t undef) := fun t => by
    rcases hF t with h | h
    · rw [h]; simp only [G]
    · rw [h]; exact r.fr t
  have rm : Rel E { s with F := Fm } ρ N a w := { r with fr := hfm }
  have hP := hE.P.symm
  have hG := hE.Gl.symm
  have hnt := hE.nt.symm
  cases i <;> simp only [stV, reduceCtorEq] at h
  case al d t =>
    simp only [R4.ok.injEq] at h
    obtain ⟨rfl, rfl, rfl, rfl⟩ := h
    refine opW_of rfl fun o hc => ?_
    obtain ⟨dst, op, ty, pos, after, guard⟩ := o
    obtain ⟨rfl, rfl⟩ := cOp_al hc
    rw [hP] at hp hn
    obtain ⟨v, w', ρ', k1, k2, k3⟩ := xAl r hp
    exact ⟨v, w', .inl (value_run' k1), hn _ _ (k2.putN (by rw [← hnt]; exact hd) k3)⟩
  case bx d t x =>
    simp only [R4.ok.injEq] at h
    obtain ⟨rfl, rfl, rfl, rfl⟩ := h
    refine opW_of rfl fun o hc => ?_
    obtain ⟨dst, op, ty, pos, after, guard⟩ := o
    obtain ⟨rfl, x', rfl, rfl⟩ := cOp_bx hc
    rw [hG] at hp hn
    obtain ⟨v, w', ρ', k1, k2, k3⟩ := xBx r (t := t) (evx_sound rm x') hp
    exact ⟨v, w', .inl (value_run' k1), hn _ _ (k2.putN (by rw [← hnt]; exact hd) k3)⟩
  case bsl d t n ps =>
    split at h <;> first | (exact R4.noConfusion h) | skip
    rename_i e he
    generalize hfz : fzd κ d = fz at h
    have hpp : (tiOf κ.P e).zok = true ∧ (tiOf κ.P e).d.ok = true ∧ 0 < (tiOf κ.P e).size ∧ n * (tiOf κ.P e).size ≤ 16777216 ∧ (bslCells (tiOf κ.P) e n (evp κ.Gl Fm ps)).1 := by
      cases fz <;> simp only [alV, R4.ok.injEq] at h <;> (rw [← h.1] at hp; exact hp)
    obtain ⟨h2, h4, h5, h6, h7⟩ := hpp
    refine opW_of rfl fun o hc => ?_
    obtain ⟨dst, op, ty, pos, after, guard⟩ := o
    obtain ⟨rfl, qs, rfl, rfl⟩ := cOp_bsl hc
    rw [hP] at he h2 h4 h5 h6 h7 h
    rw [hG] at h7 h
    cases fz with
    | true =>
      simp only [alV, R4.ok.injEq] at h
      obtain ⟨-, rfl, rfl, rfl⟩ := h
      obtain ⟨v, w', ρ', k1, k2, k3⟩ := xBsl r (qs := qs.map fun p => (p.1, a.eval p.2)) he (by rw [Array.toList_map]; exact evp_fst _ _ a _) (by rw [Array.toList_map]; exact evp_sound rm _) h2 h4 h5 h6 h7
      obtain ⟨N', q2, q3⟩ := r.frz1 rfl k2 k3
      exact ⟨v, w', .inl (value_run' k1), hn _ _ (Rel.putN (s := s) q2 (by rw [← hnt]; exact hd) q3)⟩
    | false =>
    simp only [alV, R4.ok.injEq] at h
    obtain ⟨-, rfl, rfl, rfl⟩ := h
    obtain ⟨v, w', ρ', k1, k2, k3⟩ := xBsl r (qs := qs.map fun p => (p.1, a.eval p.2)) he (by rw [Array.toList_map]; exact evp_fst _ _ a _) (by rw [Array.toList_map]; exact evp_sound rm _) h2 h4 h5 h6 h7
    exact ⟨v, w', .inl (value_run' k1), hn _ _ (k2.putN (by rw [← hnt]; exact hd) k3)⟩
  case msl d t x y =>
    split at h <;> first | (exact R4.noConfusion h) | skip
    rename_i e n c he hx hy
    generalize hfz : fzd κ d = fz at h
    have hpp : (tiOf κ.P e).zok = true ∧ (tiOf κ.P e).size = 1 ∧ 0 ≤ n ∧ n ≤ c ∧ ((tiOf κ.P e).bytes : Int) * c ≤ 281474976710656 ∧ c ≤ 9223372036854775807 := by
      cases fz <;> simp only [alV, R4.ok.injEq] at h <;> (rw [← h.1] at hp; exact hp)
    obtain ⟨h2, h4, h5, h6, h7, h8⟩ := hpp
    refine opW_of rfl fun o hc => ?_
    obtain ⟨dst, op, ty, pos, after, guard⟩ := o
    obtain ⟨rfl, x', y', rfl, rfl, rfl⟩ := cOp_msl hc
    rw [hP] at he h2 h4 h7 h
    rw [hG] at hx hy
    obtain ⟨kx, ex⟩ := idx_sound (evx_sound rm x') hx
    obtain ⟨ky, ey⟩ := idx_sound (evx_sound rm y') hy
    cases fz with
    | true =>
      simp only [alV, R4.ok.injEq] at h
      obtain ⟨-, rfl, rfl, rfl⟩ := h
      obtain ⟨v, w', ρ', k1, k2, k3⟩ := xMsl r he h2 h4 kx ky h5 h6 h7 h8
      obtain ⟨N', q2, q3⟩ := r.frz1 rfl k2 k3
      refine ⟨v, w', .inl (value_run' (u := v) ?_), hn _ _ (Rel.putN (s := s) q2 (by rw [← hnt]; exact hd) q3)⟩
      rw [ex, ey]; exact k1
    | false =>
    simp only [alV, R4.ok.injEq] at h
    obtain ⟨-, rfl, rfl, rfl⟩ := h
    obtain ⟨v, w', ρ', k1, k2, k3⟩ := xMsl r he h2 h4 kx ky h5 h6 h7 h8
    refine ⟨v, w', .inl (value_run' (u := v) ?_), hn _ _ (k2.putN (by rw [← hnt]; exact hd) k3)⟩
    rw [ex, ey]; exact k1
  case st t p x =>
    split at h
    · rename_i id off hpx
      split at h
      · rename_i seg hs
        simp only [R4.ok.injEq] at h
        obtain ⟨rfl, rfl, rfl, rfl⟩ := h
        obtain ⟨h1, h2, h4, h5, h6⟩ := hp
        refine opW_of rfl fun o hc => ?_
        obtain ⟨dst, op, ty, pos, after, guard⟩ := o
        obtain ⟨rfl, p', x', rfl, rfl, rfl⟩ := cOp_st hc
        rw [hP] at h1 h4 h5
        rw [hG] at h2 hn h4 h6 hpx
        have gp := evx_sound rm p'
        simp only at gp
        rw [hpx] at gp
        obtain ⟨w', k1, k2⟩ := xSt r gp (evx_sound rm x') hs h1 h2 h4 h5 h6
        refine ⟨undef, w', .inr ⟨?_, rfl⟩, hn _ _ ⟨ρ, N, k2⟩⟩
        show (do Instr.storeAt t (a.eval p') (a.eval x'); pure Next.skip : Sem Next).run E.P w = _
        rw [Sem.run_bind, k1]; rfl
      · simp only [reduceCtorEq] at h
    · simp only [reduceCtorEq] at h
  case app d t u x y =>
    split at h <;> simp only [R4.ok.injEq, reduceCtorEq] at h
    rename_i e he
    obtain ⟨rfl, rfl, rfl, rfl⟩ := h
    obtain ⟨rfl, h2, h4, h5, h6, h7, h8⟩ := hp
    refine opW_of rfl fun o hc => ?_
    obtain ⟨dst, op, ty, pos, after, guard⟩ := o
    obtain ⟨rfl, x', y', rfl, rfl, rfl⟩ := cOp_app hc
    rw [hP] at he h2 h4 h5 h6 h7 h8 hn
    rw [hG] at h5 h6 h7 h8 hn
    obtain ⟨v, w', ρ', k1, k2, k3⟩ := xApp r (ty := ty) he h2 h4 (evx_sound rm x') (evx_sound rm y') h5 h6 h7 h8
    refine ⟨v, w', .inl ?_, hn _ _ (k2.putN (by rw [← hnt]; exact hd) k3)⟩
    simp only [execOp, resolve, Sem.run_bind, Sem.run_pure, Result.andThen_ok, invoke, builtin, List.map_toArray, List.map_cons, List.map_nil]
    rw [k1]; rfl
  case cpy d t u x y =>
    split at h
    · rename_i e id off n z he hx
      split at h
      · rename_i seg hs
        simp only [R4.ok.injEq] at h
        obtain ⟨rfl, rfl, rfl, rfl⟩ := h
        obtain ⟨h2, h4, h5, h6, h7⟩ := hp
        refine opW_of rfl fun o hc => ?_
        obtain ⟨dst, op, ty, pos, after, guard⟩ := o
        obtain ⟨rfl, x', y', rfl, rfl, rfl⟩ := cOp_cpy hc
        rw [hP] at he h2 h4 h5
        rw [hG] at hx h7 hn
        have gx := evx_sound rm x'
        simp only at gx
        rw [hx] at gx
        obtain ⟨v, w', k1, k2, k3⟩ := xCpy r (u := u) (ty := ty) he h2 h4 h5 gx (evx_sound rm y') hs h6 h7
        refine ⟨v, w', .inl ?_, hn _ _ (Rel.putN (s := s) k2 (by rw [← hnt]; exact hd) k3)⟩
        simp only [execOp, resolve, Sem.run_bind, Sem.run_pure, Result.andThen_ok, invoke, builtin, List.map_toArray, List.map_cons, List.map_nil]
        rw [k1]; rfl
      · simp only [reduceCtorEq] at h
    · simp only [reduceCtorEq] at h
  case call d f as =>
    split at h
    · rename_i n fs cs hf
      split at h
      · rename_i g hg
        simp only [mkV, R4.ok.injEq] at h
        obtain ⟨rfl, rfl, rfl, rfl⟩ := h
        obtain ⟨h2, h4⟩ := hp
        intro ops o hc'
        obtain ⟨hgd, hc'⟩ := cI_ng hc' rfl
        have hw : Region.wanted o (yielded ops a.tmps) = true := by simp [Region.wanted, hgd]
        rw [if_pos hw]
        obtain ⟨dst, op, ty, pos, after, guard⟩ := o
        obtain ⟨rfl, f', args, tys, rfl, rfl, rfl⟩ := cOp_call hc'
        rw [hG] at hf h2 hn h4
        have gf := evx_sound rm f'
        simp only at gf
        rw [hf] at gf
        simp only [G] at gf
        obtain ⟨vs, us, e1, g1, g2⟩ := gf
        have hfun := hct n g hg _ h2
        rw [hP, hG] at hfun
        have hx : GL (fs ++ evs E.Gl Fm (args.toList.map cX) ++ cs) (E.cx w N ρ) (vs.toList ++ args.toList.map a.eval ++ us.toList) := GL_app (GL_app g1 (evs_sound rm _)) g2
        have hcall := r.call' hc hfun hx h4
        have earr : (vs.toList ++ args.toList.map a.eval ++ us.toList).toArray = vs ++ args.map a.eval ++ us := by
          apply Array.toList_inj.1; simp
        rw [earr] at hcall
        unfold Oper.wp
        rw [call_run a.eval e1 hfun.1]
        refine Calls.mono hcall ?_
        rintro e w' ⟨v, N', rfl, k1, k2⟩
        exact hn _ _ ⟨ρ, N', k1.put (by rw [← hnt]; exact hd) k2⟩
      · simp only [reduceCtorEq] at h
    · simp only [reduceCtorEq] at h
theorem sE {κ : Kt} (hct : CtOK κ.P κ.Gl κ.Ct) {i : I} {l : List C} {k : Stk} {s : St} (h : (stE κ i l k s).sem κ) : AW κ (.o i :: l) k s := by
  unfold stE at h
  cases hv : stV κ s.F s.H s.H s.nx i with
  | no => rw [hv] at h; exact h.elim
  | un => rw [hv] at h; exact h
  | ok p v H' n' =>
    rw [hv] at h
    obtain ⟨⟨h1, h2⟩, h3⟩ := h
    exact AW_o fun E hE ρ N a w r => stV_sound hct hE r (fun _ => .inr rfl) (fun _ => .inr rfl) hv h1 h2 fun a' w' hg => h3 E hE a' w' hg
end Go.Lv
namespace Go.Lv
open Go
theorem cBlt_ng {d : Nat} {b : Builtin} {as : List Operand} {ts : List TypeId} {i : I} (h : cBlt d b as ts = some i) : ng i = true ∧ dI i = some d := by
  unfold cBlt at h
  split at h <;> simp at h <;> subst h <;> exact ⟨rfl, rfl⟩
theorem cOp_ng {d : Option Tmp} {op : Op} {i : I} (h : cOp d op = some i) : ng i = true ∧ dI i = d := by
  cases op <;> cases d <;> simp [cOp] at h
  all_goals try (subst h; exact ⟨rfl, rfl⟩)
  all_goals try (obtain ⟨t, x, rfl, _⟩ := clzO_is h; exact ⟨rfl, rfl⟩)
  rename_i c d; obtain ⟨ce, as, ts⟩ := c; cases ce <;> simp at h
  · subst h; exact ⟨rfl, rfl⟩
  · subst h; exact ⟨rfl, rfl⟩
  · exact cBlt_ng h
theorem Oper.wp_guard {P : Program} (o : Oper) (a : Act) (w : World) (n : Act → World → Prop) (Q : Exit → Act → World → Prop) : ({ o with guard := none } : Oper).wp P a w n Q = o.wp P a w n Q := by
  obtain ⟨dst, op, ty, pos, after, guard⟩ := o
  rfl
theorem put_out {a : Act} {d : Nat} {v : Value} (h : a.tmps.size ≤ d) : a.put (some d) v = a := by
  simp [Act.put, Array.setIfInBounds, Nat.not_lt.2 h]
theorem gd_wanted {E : Ent} {s : St} {ρ : Nat → Option (Option Nat)} {N : Nat → Prop} {a : Act} {w : World} (r : Rel E s ρ N a w) {ops : Array Oper} {o : Oper} {g : Nat} {b : Bool} {i : I} (hc : cI ops o = some (.gd g b i)) {p : Bool} (hp : lkd .junk s.F g = .b p) :
    cOp o.dst o.op = some i ∧ Region.wanted o (yielded ops a.tmps) = (p == b) := by
  unfold cI at hc
  split at hc
  · have := (cOp_ng hc).1; simp [ng] at this
  · rename_i j b' hgd
    split at hc
    · rename_i g' i' hg' hi'
      simp only [Option.some.injEq, I.gd.injEq] at hc
      obtain ⟨rfl, rfl, rfl⟩ := hc
      refine ⟨hi', ?_⟩
      have hv := r.fr g'
      rw [hp] at hv
      simp only [G] at hv
      have hs : a.tmps[g']? = some (.bool p) := by
        cases ht : a.tmps[g']? with
        | none => simp [ht, undef] at hv
        | some x => simp [ht] at hv; rw [hv]
      have hy : yielded ops a.tmps j = some p := by
        unfold yielded
        rw [show (ops[j]?).bind (·.dst) = some g' from hg']
        simp [hs]
      simp [Region.wanted, hgd, hy]
    · cases hc
theorem G_undef (c : Cx) : G (.tup []) c undef := by simp only [G]; exact ⟨#[], rfl, by simp [GL]⟩
theorem gd_none {E : Ent} {s : St} {ρ : Nat → Option (Option Nat)} {N : Nat → Prop} {a : Act} {w : World} (r : Rel E s ρ N a w) {ops : Array Oper} {o : Oper} {g : Nat} {b : Bool} {i : I} (hc : cI ops o = some (.gd g b i)) (hp : lkd .junk s.F g = .tup []) :
    cOp o.dst o.op = some i ∧ Region.wanted o (yielded ops a.tmps) = false := by
  unfold cI at hc
  split at hc
  · have := (cOp_ng hc).1; simp [ng] at this
  · rename_i j b' hgd
    split at hc
    · rename_i g' i' hg' hi'
      simp only [Option.some.injEq, I.gd.injEq] at hc
      obtain ⟨rfl, rfl, rfl⟩ := hc
      refine ⟨hi', ?_⟩
      have hv := r.fr g'
      rw [hp] at hv
      simp only [G] at hv
      obtain ⟨vs, hv, _⟩ := hv
      have hy : yielded ops a.tmps j = none := by
        unfold yielded
        rw [show (ops[j]?).bind (·.dst) = some g' from hg']
        simp only [Option.bind_some]
        cases ht : a.tmps[g']? with
        | none => rfl
        | some x => simp [ht] at hv; rw [hv]
      simp [Region.wanted, hgd, hy]
    · cases hc
end Go.Lv
namespace Go.Lv
open Go
theorem rst_get (F : List (Nat × AV)) : ∀ (ts : List Nat) (t : Nat), lkd .junk (rst F ts) t = if t ∈ ts then lkd .junk F t else .junk
  | [], t => by simp [rst, lkd]
  | x :: ts, t => by
    simp only [rst, lkd]
    cases hb : Nat.beq x t with
    | true => have := Nat.eq_of_beq_eq_true hb; subst this; simp
    | false =>
      have hne : t ≠ x := by intro e; subst e; simp at hb
      simp only [cond_false, rst_get F ts t, List.mem_cons, hne, false_or]
theorem subH_get {H : List (Nat × Seg)} : ∀ {Hr : List (Nat × Seg)}, subH H Hr → ∀ id, lkf Hr id = none ∨ lkf Hr id = lkf H id
  | [], _, id => .inl rfl
  | (j, s) :: r, h, id => by
    simp only [subH] at h
    simp only [lkf]
    cases hb : Nat.beq j id with
    | true => have := Nat.eq_of_beq_eq_true hb; subst this; exact .inr h.1.symm
    | false => exact subH_get h.2 id
theorem pt_get (F : List (Nat × AV)) (d : Option Nat) (v : AV) (t : Nat) : lkd .junk (pt F d v) t = if d = some t then v else lkd .junk F t := by
  cases d with
  | none => simp [pt]
  | some d =>
    simp only [pt, lkd_put, Option.some.injEq]
theorem stV_non {κ : Kt} {F : List (Nat × AV)} {Hc H : List (Nat × Seg)} {nx : Nat} {i : I} {p : Prop} {v : AV} {H' : List (Nat × Seg)} {n' : Nat} (hi : isE i = false) (h : stV κ F Hc H nx i = .ok p v H' n') :
    H' = H ∧ n' = nx ∧ ∀ H2 n2, stV κ F Hc H2 n2 i = .ok p v H2 n2 := by
  cases i <;> simp only [isE, Bool.true_eq_false, stV, reduceCtorEq] at hi h
  case call d f as =>
    simp only [stV]
    split at h
    · rename_i n fs cs hf
      split at h
      · rename_i g hg
        simp only [mkV, R4.ok.injEq] at h
        obtain ⟨rfl, rfl, rfl, rfl⟩ := h
        refine ⟨rfl, rfl, fun H2 n2 => ?_⟩
        simp only [hf, hg, mkV]
      · simp only [reduceCtorEq] at h
    · simp only [reduceCtorEq] at h
theorem qd_isE {i : I} {d : Nat} (h : qd i = some d) : isE i = false ∧ dI i = some d ∧ ng i = true := by
  cases i <;> simp only [qd, reduceCtorEq, Option.some.injEq] at h <;> subst h <;> exact ⟨rfl, rfl, rfl⟩
theorem dV'_non {κ : Kt} {F : List (Nat × AV)} {Hr H : List (Nat × Seg)} {nx : Nat} {i : I} {p : Prop} {v : AV} {H' : List (Nat × Seg)} {n' : Nat} (hi : isE i = false) (h : dV' κ Hr F H nx i = .ok p v H' n') : H' = H ∧ n' = nx := by
  unfold dV' at h
  split at h
  · simp only [qR4, R4.ok.injEq] at h; exact ⟨h.2.2.1.symm, h.2.2.2.symm⟩
  · obtain ⟨h1, h2, _⟩ := stV_non hi h; exact ⟨h1, h2⟩
theorem dV_non {κ : Kt} {Hr : List (Nat × Seg)} {s : St} {i : I} {p : Prop} {v : AV} {H' : List (Nat × Seg)} {n' : Nat} (hi : isE i = false) (h : dV κ Hr s i = .ok p v H' n') : H' = s.H ∧ n' = s.nx := by
  unfold dV at h
  split at h
  · split at h
    · split at h
      · refine dV'_non ?_ h; exact hi
      · simp only [R4.ok.injEq] at h; exact ⟨h.2.2.1.symm, h.2.2.2.symm⟩
    · split at h
      · simp only [R4.ok.injEq] at h; exact ⟨h.2.2.1.symm, h.2.2.2.symm⟩
      · cases h
  · exact dV'_non hi h
theorem dsem_seq {κ : Kt} {Hr : List (Nat × Seg)} {K : St → Prop} : ∀ (fl : List I) (s : St), dsem κ Hr fl s K → ∃ (S : Nat → St) (V : Nat → AV), S 0 = s ∧ K (S fl.length) ∧
    ∀ j, j < fl.length → ∃ p : Prop, dV κ Hr (S j) (fl.getD j (.mv 0 (.f 0))) = .ok p (V j) (S (j + 1)).H (S (j + 1)).nx ∧ p ∧ okd κ.nt (dI (fl.getD j (.mv 0 (.f 0)))) ∧ keepH Hr (S (j + 1)).H (isE (fl.getD j (.mv 0 (.f 0)))) ∧
      (S (j + 1)).F = pt (S j).F (dI (fl.getD j (.mv 0 (.f 0)))) (V j)
  | [], s, h => ⟨fun _ => s, fun _ => .junk, rfl, h, fun j hj => by simp at hj⟩
  | i :: fl, s, h => by
    simp only [dsem] at h
    split at h
    · rename_i p v H n hv
      obtain ⟨h1, h2, h3, h4⟩ := h
      obtain ⟨S, V, e0, hK, hs⟩ := dsem_seq fl _ h4
      refine ⟨fun j => match j with | 0 => s | j + 1 => S j, fun j => match j with | 0 => v | j + 1 => V j, rfl, hK, fun j hj => ?_⟩
      cases j with
      | zero => exact ⟨p, by simp only [List.getD_cons_zero, e0]; exact hv, h2, h1, by simp only [e0]; exact h3, by simp only [e0]; rfl⟩
      | succ j => simp only [List.getD_cons_succ]; exact hs j (by simpa using hj)
    · exact h.elim
def cnt (f : Nat → Bool) : Nat → Nat
  | 0 => 0
  | k + 1 => cnt f k + (if f k then 0 else 1)
theorem cnt_congr {f g : Nat → Bool} : ∀ k, (∀ i, i < k → f i = g i) → cnt f k = cnt g k
  | 0, _ => rfl
  | k + 1, h => by simp only [cnt]; rw [cnt_congr k fun i hi => h i (by omega), h k (by omega)]
theorem cnt_set {f g : Nat → Bool} {i : Nat} : ∀ k, i < k → f i = false → g i = true → (∀ j, j ≠ i → g j = f j) → cnt g k + 1 = cnt f k
  | 0, h, _, _, _ => by omega
  | k + 1, h, h1, h2, h3 => by
    simp only [cnt]
    by_cases e : i = k
    · subst e
      rw [cnt_congr i (f := g) (g := f) fun j hj => h3 j (by omega), h1, h2]; simp
    · have := cnt_set k (by omega : i < k) h1 h2 h3
      rw [h3 k (fun e' => e e'.symm)]; omega
theorem cnt_zero {f : Nat → Bool} : ∀ k, cnt f k = 0 → ∀ i, i < k → f i = true
  | 0, _, i, hi => by omega
  | k + 1, h, i, hi => by
    simp only [cnt] at h
    cases hf : f k with
    | true =>
      by_cases e : i = k
      · subst e; exact hf
      · exact cnt_zero k (by omega) i (by omega)
    | false => simp [hf] at h
section
variable {κ : Kt} {E : Ent} {s : St} {ρ : Nat → Option (Option Nat)} {N : Nat → Prop} {a : Act} {w : World}
theorem Rel.less (r : Rel E s ρ N a w) {Fm : List (Nat × AV)} {Hr : List (Nat × Seg)} (hF : ∀ t, lkd .junk Fm t = .junk ∨ lkd .junk Fm t = lkd .junk s.F t) (hc : ∀ id, lkf Hr id = none ∨ lkf Hr id = lkf s.H id) : Rel E { s with F := Fm, H := Hr } ρ N a w := by
  have sub : ∀ id seg, lkf Hr id = some seg → lkf s.H id = some seg := fun id seg h => by
    rcases hc id with h' | h'
    · rw [h'] at h; cases h
    · rw [← h']; exact h
  have hfm : ∀ t, G (lkd .junk Fm t) (E.cx w N ρ) (a.tmps.getD t undef) := fun t => by
    rcases hF t with h | h
    · rw [h]; simp only [G]
    · rw [h]; exact r.fr t
  exact { r with
    fr := hfm
    hp := fun id seg h => r.hp id seg (sub id seg h)
    own := fun id seg b h hb => r.own id seg b (sub id seg h) hb
    inj := fun i j b hi hj => r.inj i j b (by rcases hc i with h' | h'; exact absurd h' hi; rw [← h']; exact hi) (by rcases hc j with h' | h'; exact absurd h' hj; rw [← h']; exact hj) }
theorem dV'_sound (hct : CtOK κ.P κ.Gl κ.Ct) (hE : κ.ok E) (r : Rel E s ρ N a w) {Fm : List (Nat × AV)} {Hr : List (Nat × Seg)}
    (hF : ∀ t, lkd .junk Fm t = .junk ∨ lkd .junk Fm t = lkd .junk s.F t) (hc : ∀ id, lkf Hr id = none ∨ lkf Hr id = lkf s.H id) {i : I} {p : Prop} {v : AV} {H' : List (Nat × Seg)} {n' : Nat} (hn : ng i = true)
    (h : dV' κ Hr Fm s.H s.nx i = .ok p v H' n') (hd : okd κ.nt (dI i)) (hp : p) {next : Act → World → Prop} {Q : Exit → Act → World → Prop} (hx : ∀ a' w', Gam E ⟨pt s.F (dI i) v, H', n'⟩ a' w' → next a' w') : opW E.P i next Q a w := by
  unfold dV' at h
  split at h
  · rename_i d hq
    simp only [qR4, R4.ok.injEq] at h
    obtain ⟨rfl, rfl, rfl, rfl⟩ := h
    refine opW_of hn fun o hc' => ?_
    have rm := r.less hF hc
    rw [← hE.P, ← hE.Gl] at hp hx
    obtain ⟨e, u, k1, k2⟩ := q_sound (s := { s with F := Fm, H := Hr }) rm hc' hq hp
    refine ⟨u, w, .inl k1, ?_⟩
    rw [e]
    have hdd := (qd_isE hq).2.1
    rw [hdd] at hx hd
    exact hx _ _ ⟨ρ, N, r.put (by rw [hE.nt]; exact hd) k2⟩
  · exact stV_sound hct hE r hF hc h hd hp hx
theorem dV_sound (hct : CtOK κ.P κ.Gl κ.Ct) (hE : κ.ok E) (r : Rel E s ρ N a w) {s0 : St} {Hr : List (Nat × Seg)} {i : I} (hF : ∀ t ∈ slI i, lkd .junk s0.F t = lkd .junk s.F t) (hH : isE i = true → s0.H = s.H ∧ s0.nx = s.nx) (hc : ∀ id, lkf Hr id = none ∨ lkf Hr id = lkf s.H id)
    {p : Prop} {v : AV} {H' : List (Nat × Seg)} {n' : Nat}
    (h : dV κ Hr s0 i = .ok p v H' n') (hd : okd κ.nt (dI i)) (hp : p) {next : Act → World → Prop} {Q : Exit → Act → World → Prop}
    (hx : ∀ a' w', Gam E ⟨pt s.F (dI i) v, if isE i = true then H' else s.H, if isE i = true then n' else s.nx⟩ a' w' → next a' w') : opW E.P i next Q a w := by
  have base : ∀ (i : I) (Fm : List (Nat × AV)), ng i = true → (∀ t, lkd .junk Fm t = .junk ∨ lkd .junk Fm t = lkd .junk s.F t) → (isE i = true → s0.H = s.H ∧ s0.nx = s.nx) → dV' κ Hr Fm s0.H s0.nx i = .ok p v H' n' → okd κ.nt (dI i) →
      (∀ a' w', Gam E ⟨pt s.F (dI i) v, if isE i = true then H' else s.H, if isE i = true then n' else s.nx⟩ a' w' → next a' w') → opW E.P i next Q a w := by
    intro i Fm hn hF hH h hd hx
    cases hi : isE i with
    | true =>
      obtain ⟨e1, e2⟩ := hH hi
      rw [e1, e2] at h
      refine dV'_sound hct hE r hF hc hn h hd hp fun a' w' hg => hx a' w' ?_
      rw [hi]; exact hg
    | false =>
      have h2 : dV' κ Hr Fm s.H s.nx i = .ok p v s.H s.nx := by
        unfold dV' at h ⊢
        split at h
        · simp only [qR4, R4.ok.injEq] at h ⊢; exact ⟨h.1, h.2.1, trivial, trivial⟩
        · exact (stV_non hi h).2.2 _ _
      refine dV'_sound hct hE r hF hc hn h2 hd hp fun a' w' hg => hx a' w' ?_
      rw [hi]; exact hg
  have rs : ∀ ts : List Nat, (∀ t ∈ ts, lkd .junk s0.F t = lkd .junk s.F t) → ∀ t, lkd .junk (rst s0.F ts) t = .junk ∨ lkd .junk (rst s0.F ts) t = lkd .junk s.F t := by
    intro ts h t
    rw [rst_get]
    by_cases ht : t ∈ ts
    · rw [if_pos ht]; exact .inr (h t ht)
    · rw [if_neg ht]; exact .inl rfl
  unfold dV at h
  split at h
  · rename_i g b i
    split at h
    · rename_i t ht
      have hg : lkd .junk s.F g = .b t := by rw [← hF g (by simp [slI])]; exact ht
      intro ops o hc'
      obtain ⟨hi, hw⟩ := gd_wanted r hc' hg
      obtain ⟨hn, hdd⟩ := cOp_ng hi
      rw [hw]
      split at h
      · rename_i e
        subst e
        rw [if_pos (by simp)]
        have := base i _ hn (rs _ hF) hH h hd hx ops { o with guard := none } hi
        rw [if_pos (by rfl), Oper.wp_guard] at this
        exact this
      · rename_i e
        rw [if_neg (by simpa using e)]
        simp only [R4.ok.injEq] at h
        obtain ⟨rfl, rfl, rfl, rfl⟩ := h
        refine hx _ _ ?_
        have eH : (if isE (.gd g b i) = true then s0.H else s.H) = s.H := by split; exact (hH (by assumption)).1; rfl
        have en : (if isE (.gd g b i) = true then s0.nx else s.nx) = s.nx := by split; exact (hH (by assumption)).2; rfl
        rw [eH, en]
        simp only [dI] at hd ⊢
        rw [← hdd]
        cases hdi : dI i with
        | none => exact ⟨ρ, N, r⟩
        | some d => rw [hdi] at hd; exact ⟨ρ, N, r.put (by rw [hE.nt]; exact hd) (G_undef _)⟩
    · split at h
      case' h_2 => cases h
      rename_i ht
      have hg : lkd .junk s.F g = .tup [] := by rw [← hF g (by simp [slI])]; exact isU_T ht
      intro ops o hc'
      obtain ⟨hi, hw⟩ := gd_none r hc' hg
      obtain ⟨hn, hdd⟩ := cOp_ng hi
      rw [hw, if_neg (by simp)]
      simp only [R4.ok.injEq] at h
      obtain ⟨rfl, rfl, rfl, rfl⟩ := h
      refine hx _ _ ?_
      have eH : (if isE (.gd g b i) = true then s0.H else s.H) = s.H := by split; exact (hH (by assumption)).1; rfl
      have en : (if isE (.gd g b i) = true then s0.nx else s.nx) = s.nx := by split; exact (hH (by assumption)).2; rfl
      rw [eH, en]
      simp only [dI] at hd ⊢
      rw [← hdd]
      cases hdi : dI i with
      | none => exact ⟨ρ, N, r⟩
      | some d => rw [hdi] at hd; exact ⟨ρ, N, r.put (by rw [hE.nt]; exact hd) (G_undef _)⟩
  · rename_i hng
    have hn : ng i = true := by cases i <;> first | rfl | exact absurd rfl (hng _ _ _)
    exact base i _ hn (rs _ hF) hH h hd hx
end
end Go.Lv
namespace Go.Lv
open Go
structure DrawOK (wk : Bool) (bs an : List (List Nat)) (m : Nat) (l : List I) : Prop where
  len : bs.length = l.length
  le : m ≤ l.length
  back : ∀ j, j < l.length → ∀ b ∈ bs.getD j [], b < j
  anc : ∀ j, j < l.length → ∀ x ∈ an.getD j [], ∃ b ∈ bs.getD j [], b = x ∨ x ∈ an.getD b []
  mid : m < l.length → ∀ k, k < m → k ∈ an.getD m []
  row : ∀ i, m < i → i < l.length → i - 1 ∈ bs.getD i []
  look : ∀ i j d, i < m → j < m → dI (l.getD i (.mv 0 (.f 0))) = some d → d ∈ slI (l.getD j (.mv 0 (.f 0))) → i ∈ an.getD j []
  dst : ∀ i j d, i < m → j < m → dI (l.getD i (.mv 0 (.f 0))) = some d → dI (l.getD j (.mv 0 (.f 0))) = some d → i = j
  eff : ∀ i j, i < j → j < m → isE (l.getD i (.mv 0 (.f 0))) = true → isE (l.getD j (.mv 0 (.f 0))) = true → i ∈ an.getD j [] ∨ (wk = true ∧ isB (l.getD i (.mv 0 (.f 0))) = true ∧ isB (l.getD j (.mv 0 (.f 0))) = true)
theorem drawOK_spec {wk : Bool} {bs an : List (List Nat)} {m : Nat} {l : List I} (h : drawOK wk bs an m l = true) : DrawOK wk bs an m l := by
  simp only [drawOK, Bool.and_eq_true, List.all_eq_true, List.mem_range, beq_iff_eq, decide_eq_true_eq, Bool.or_eq_true, List.any_eq_true, List.contains_iff_mem, Bool.not_eq_true', decide_eq_false_iff_not] at h
  obtain ⟨⟨⟨⟨⟨h1, h2⟩, h3⟩, h4⟩, h5⟩, h6⟩ := h
  refine ⟨h1, h2, fun j hj b hb => (h3 j hj).1 b hb, fun j hj x hx => ?_, fun hm k hk => ?_, fun i h7 h8 => ?_, fun i j d hi hj hd hs => ?_, fun i j d hi hj hd hd' => ?_, fun i j hij hj hi hj' => ?_⟩
  · obtain ⟨b, h7, h8⟩ := (h3 j hj).2 x hx; exact ⟨b, h7, h8⟩
  · exact (h4.resolve_left (by omega)) k hk
  · exact (h5 i h8).resolve_left (by omega)
  · have := (h6 j hj i hi).1
    rw [hd] at this
    simp only [Bool.and_eq_true, Bool.or_eq_true, Bool.not_eq_true', List.contains_iff_mem] at this
    refine this.1.resolve_left fun h => ?_
    have h' : ((slI (l.getD j (.mv 0 (.f 0)))).contains d) = true := by rw [List.contains_iff_mem]; exact hs
    rw [h] at h'; cases h'
  · have := (h6 j hj i hi).1
    rw [hd] at this
    simp only [Bool.and_eq_true, Bool.or_eq_true, Bool.not_eq_true', beq_iff_eq] at this
    refine this.2.resolve_right fun h => ?_
    rw [hd'] at h; simp at h
  · have := (h6 j hj i (by omega)).2
    rcases this with (((h | h) | h) | h) | h
    · exact absurd hij h
    · rw [hi] at h; cases h
    · rw [hj'] at h; cases h
    · exact .inl h
    · exact .inr ⟨h.1.1, h.1.2, h.2⟩
end Go.Lv
namespace Go.Lv
open Go
theorem cOps_get {ops : Array Oper} : ∀ {rest : List Oper} {l : List I}, cOps ops rest = some l → rest.length = l.length ∧ ∀ (j : Nat) (o : Oper), rest[j]? = some o → cI ops o = some (l.getD j (.mv 0 (.f 0)))
  | [], l, h => by simp only [cOps, Option.some.injEq] at h; subst h; exact ⟨rfl, fun j o h => by simp at h⟩
  | o :: rest, l, h => by
    simp only [cOps] at h
    cases hi : cI ops o with
    | none => simp [hi] at h
    | some i =>
      cases hr : cOps ops rest with
      | none => simp [hi, hr] at h
      | some l' =>
        simp only [hi, hr, Option.some.injEq] at h
        subst h
        obtain ⟨h1, h2⟩ := cOps_get hr
        refine ⟨by simp [h1], fun j o' hj => ?_⟩
        cases j with
        | zero => simp only [List.getElem?_cons_zero, Option.some.injEq] at hj; subst hj; exact hi
        | succ j => simp only [List.getElem?_cons_succ] at hj; simpa using h2 j o' hj
theorem wpOp_of {P : Program} {ops : Array Oper} {i : I} {j : Nat} {o : Oper} (hj : ops[j]? = some o) (hi : cI ops o = some i) {next K : Act → World → Prop} {Q Q' : Exit → Act → World → Prop} {a : Act} {w : World} (h : opW P i next Q a w)
    (hK : ∀ a w, next a w → K a w) (hp : ∀ c a w, Q (.panic c) a w → Q' (.panic c) a w) (hg : ∀ a w, Q .outgrown a w → Q' .outgrown a w) : wpOq P ops Q' j K a w := by
  unfold wpOq
  simp only [hj]
  have := h ops o hi
  split
  · rename_i hw; rw [if_pos hw] at this; exact .inl (Oper.wp_mono hK (Oper.wp_Q hp hg this))
  · rename_i hw; rw [if_neg hw] at this; exact hK _ _ this
theorem wpOq_ry {P : Program} {ops : Array Oper} {i : I} {j : Nat} {o : Oper} (hj : ops[j]? = some o) (hi : cI ops o = some i) {next K : Act → World → Prop} {Q' : Exit → Act → World → Prop} {a : Act} {w : World} (h : ryW P i next a w)
    (hK : ∀ a w, next a w → K a w) : wpOq P ops Q' j K a w := by
  unfold wpOq
  simp only [hj]
  obtain ⟨hw, h2⟩ := ryW_mono hK h ops o hi
  rw [if_pos hw]
  exact .inr h2
section
variable {P : Program} {ops : Array Oper} {l : List I} {an : List (List Nat)} {m : Nat}
theorem bs_get {j : Nat} {o : Oper} (ho : ops[j]? = some o) : (ops.toList.map bsO).getD j [] = bsO o := by
  simp [List.getD_eq_getElem?_getD, ho]
theorem bsO_mem {o : Oper} {b : Nat} : b ∈ bsO o ↔ ∃ e ∈ o.after, Region.binds .any e = true ∧ e.on = b := by
  simp only [bsO, List.mem_filterMap, Array.mem_toList_iff]
  constructor
  · rintro ⟨e, h1, h2⟩
    split at h2
    · rename_i hb; simp only [Option.some.injEq] at h2; exact ⟨e, h1, hb, h2⟩
    · cases h2
  · rintro ⟨e, h1, h2, h3⟩
    exact ⟨e, h1, by rw [if_pos h2, h3]⟩
theorem ready_iff {listed : Array Bool} {i : Nat} : i ∈ Region.ready .any ops listed ↔ listed.getD i true = false ∧ ∃ o, ops[i]? = some o ∧ ∀ b ∈ (ops.toList.map bsO).getD i [], listed.getD b false = true := by
  rw [mem_ready]
  constructor
  · rintro ⟨h1, o, h2, h3⟩
    refine ⟨h1, o, h2, fun b hb => ?_⟩
    rw [bs_get h2, bsO_mem] at hb
    obtain ⟨e, k1, k2, rfl⟩ := hb
    exact h3 e k1 k2
  · rintro ⟨h1, o, h2, h3⟩
    refine ⟨h1, o, h2, fun e he hb => h3 _ ?_⟩
    rw [bs_get h2, bsO_mem]
    exact ⟨e, he, hb, rfl⟩
theorem getD_tf {listed : Array Bool} {i : Nat} (h : i < listed.size) : listed.getD i true = listed.getD i false := by
  simp [Array.getD_eq_getD_getElem?, h]
theorem chain {wk : Bool} (hc : cOps ops ops.toList = some l) (D : DrawOK wk (ops.toList.map bsO) an m l) (rest : List C) (Qk : Exit → Act → World → Prop) :
    ∀ (d j : Nat), j + d = l.length → m ≤ j → ∀ (fuel : Nat), d ≤ fuel → ∀ (listed : Array Bool), listed.size = l.length → (∀ i, i < l.length → listed.getD i false = decide (i < j)) → ∀ (a : Act) (w : World),
      cwp P ((l.drop j).map toC ++ rest) Qk a w → wpAnq P .any ops (Exit.then (fun a w => cwp P rest Qk a w) Qk) fuel listed a w := by
  obtain ⟨hlen, hget⟩ := cOps_get hc
  have hsz : ops.size = l.length := by simpa using hlen
  intro d
  induction d with
  | zero =>
    intro j hj hm fuel _ listed hs hL a w h
    have hr : Region.ready .any ops listed = [] := by
      rw [List.eq_nil_iff_forall_not_mem]
      intro i hi
      obtain ⟨h1, o, h2, _⟩ := ready_iff.1 hi
      have hlt : i < l.length := by rw [← hsz]; exact (Array.getElem?_eq_some_iff.1 h2).1
      rw [getD_tf (by omega), hL i hlt] at h1
      simp only [decide_eq_false_iff_not] at h1
      omega
    refine wpAnq_done hr ?_ fuel
    have : l.drop j = [] := List.drop_eq_nil_of_le (by omega)
    rw [this] at h
    exact h
  | succ d ih =>
    intro j hj hm fuel hf listed hs hL a w h
    have hjl : j < l.length := by omega
    obtain ⟨fuel, rfl⟩ : ∃ f, fuel = f + 1 := ⟨fuel - 1, by omega⟩
    have hoj : ops[j]? = some ops[j] := Array.getElem?_eq_getElem (by omega)
    have hjr : j ∈ Region.ready .any ops listed := by
      rw [ready_iff]
      refine ⟨by rw [getD_tf (by omega), hL j hjl]; simp, _, hoj, fun b hb => ?_⟩
      have := D.back j hjl b hb
      rw [hL b (by omega)]; simpa using this
    refine ⟨fun h0 => (by rw [h0] at hjr; cases hjr), fun i hi => ?_⟩
    have hij : i = j := by
      obtain ⟨h1, o, h2, h3⟩ := ready_iff.1 hi
      have hlt : i < l.length := by rw [← hsz]; exact (Array.getElem?_eq_some_iff.1 h2).1
      rw [getD_tf (by omega), hL i hlt] at h1
      simp only [decide_eq_false_iff_not] at h1
      rcases Nat.lt_or_ge j i with h4 | h4
      · have := h3 _ (D.row i (by omega) hlt)
        rw [hL (i - 1) (by omega)] at this
        simp only [decide_eq_true_eq] at this
        omega
      · omega
    subst hij
    have hd : l.drop i = l.getD i (.mv 0 (.f 0)) :: l.drop (i + 1) := by
      rw [List.drop_eq_getElem_cons hjl]; simp [List.getD_eq_getElem?_getD, hjl]
    rw [hd] at h
    have h1 : opW P (l.getD i (.mv 0 (.f 0))) (fun a w => cwp P ((l.drop (i + 1)).map toC ++ rest) Qk a w) (Exit.then (fun a w => cwp P ((l.drop (i + 1)).map toC ++ rest) Qk a w) Qk) a w ∨ ryW P (l.getD i (.mv 0 (.f 0))) (fun a w => cwp P ((l.drop (i + 1)).map toC ++ rest) Qk a w) a w := by
      simp only [List.map_cons, List.cons_append, cwp, toC] at h
      split at h
      · simp only [cw1, Exit.then] at h; exact h
      · simp only [cw1, Exit.then] at h; exact .inl h
    have hn : ∀ a w, cwp P ((l.drop (i + 1)).map toC ++ rest) Qk a w → wpAnq P .any ops (Exit.then (fun a w => cwp P rest Qk a w) Qk) fuel (listed.setIfInBounds i true) a w := by
      intro a w hn
      refine ih (i + 1) (by omega) (by omega) fuel (by omega) _ (by simpa using hs) (fun k hk => ?_) a w hn
      by_cases hki : i = k
      · subst hki; simp [show i < listed.size by omega]
      · rw [getD_set_ne false hki, hL k hk]
        simp only [decide_eq_decide]
        omega
    rcases h1 with h1 | h1
    · exact wpOp_of hoj (hget i _ (by simpa using hoj)) h1 hn (fun c a w h => h) (fun a w h => h)
    · exact wpOq_ry hoj (hget i _ (by simpa using hoj)) h1 hn
end
section
variable {κ : Kt} {ops : Array Oper} {l : List I} {an : List (List Nat)} {m : Nat}
def ctN (f : Nat → Bool) : Nat → Nat
  | 0 => 0
  | k + 1 => ctN f k + (if f k then 1 else 0)
theorem ctN_congr {f g : Nat → Bool} : ∀ k, (∀ i, i < k → f i = g i) → ctN f k = ctN g k
  | 0, _ => rfl
  | k + 1, h => by simp only [ctN]; rw [ctN_congr k fun i hi => h i (by omega), h k (by omega)]
theorem ctN_set {f g : Nat → Bool} {i : Nat} : ∀ k, i < k → f i = false → g i = true → (∀ j, j ≠ i → g j = f j) → ctN g k = ctN f k + 1
  | 0, h, _, _, _ => by omega
  | k + 1, h, h1, h2, h3 => by
    simp only [ctN]
    by_cases e : i = k
    · subst e
      rw [ctN_congr i (f := g) (g := f) fun j hj => h3 j (by omega), h1, h2]; simp
    · have := ctN_set k (by omega : i < k) h1 h2 h3
      rw [h3 k (fun e' => e e'.symm)]; omega
theorem ctN_zero {f : Nat → Bool} : ∀ k, (∀ i, i < k → f i = false) → ctN f k = 0
  | 0, _ => rfl
  | k + 1, h => by simp only [ctN]; rw [ctN_zero k fun i hi => h i (by omega), h k (by omega)]; rfl
theorem ctN_cut {f g : Nat → Bool} {i : Nat} : ∀ k, i ≤ k → (∀ j, j < i → f j = g j) → (∀ j, i ≤ j → j < k → f j = false) → ctN f k = ctN g i
  | 0, h, _, _ => by have : i = 0 := by omega
                     subst this; rfl
  | k + 1, h, h1, h2 => by
    by_cases e : i = k + 1
    · subst e; exact ctN_congr _ h1
    · simp only [ctN]
      rw [ctN_cut k (by omega) h1 (fun j hj hj' => h2 j hj (by omega)), h2 k (by omega) (by omega)]; rfl
def FInv (nu : Nat → Bool) (E : Ent) (fl : List I) (S : Nat → St) (V : Nat → AV) (m : Nat) (L : Nat → Bool) (a : Act) (w : World) : Prop :=
  ∃ (e : Nat) (F : List (Nat × AV)), e ≤ m ∧ (∀ i, i < e → isE (fl.getD i (.mv 0 (.f 0))) = true → L i = true) ∧ (∀ i, e ≤ i → i < m → isE (fl.getD i (.mv 0 (.f 0))) = true → nu i = false → L i = false) ∧
    (∀ i d, i < m → L i = true → dI (fl.getD i (.mv 0 (.f 0))) = some d → lkd .junk F d = V i) ∧
    (∀ t, (∀ i, i < m → L i = true → dI (fl.getD i (.mv 0 (.f 0))) ≠ some t) → lkd .junk F t = lkd .junk (S 0).F t) ∧
    Gam E ⟨F, (S e).H, (S e).nx + ctN (fun i => decide (e ≤ i) && nu i && L i) m⟩ a w
theorem seq_H {nu : Nat → Bool} {fl : List I} {S : Nat → St} {V : Nat → AV} {Hr : List (Nat × Seg)} {m : Nat} (hS : ∀ j, j < m → ∃ p : Prop, dV κ Hr (S j) (fl.getD j (.mv 0 (.f 0))) = .ok p (V j) (S (j + 1)).H (S (j + 1)).nx ∧ p ∧ okd κ.nt (dI (fl.getD j (.mv 0 (.f 0)))) ∧ keepH Hr (S (j + 1)).H (isE (fl.getD j (.mv 0 (.f 0)))) ∧
      (S (j + 1)).F = pt (S j).F (dI (fl.getD j (.mv 0 (.f 0)))) (V j)) (hnE : ∀ j, j < m → nu j = true → isE (fl.getD j (.mv 0 (.f 0))) = true) (hnS : ∀ j, j < m → nu j = true → (S (j + 1)).H = (S j).H ∧ (S (j + 1)).nx = (S j).nx + 1) {e : Nat} : ∀ (k : Nat), e + k ≤ m → (∀ i, e ≤ i → i < e + k → isE (fl.getD i (.mv 0 (.f 0))) = true → nu i = true) → (S (e + k)).H = (S e).H ∧ (S (e + k)).nx = (S e).nx + ctN (fun i => decide (e ≤ i) && nu i) (e + k)
  | 0, _, _ => ⟨rfl, by rw [ctN_zero]; · rfl
                        · intro i hi; simp; omega⟩
  | k + 1, hk, h => by
    obtain ⟨h1, h2⟩ := seq_H hS hnE hnS k (by omega) fun i hi hi' => h i hi (by omega)
    have hct : ctN (fun i => decide (e ≤ i) && nu i) (e + (k + 1)) = ctN (fun i => decide (e ≤ i) && nu i) (e + k) + (if nu (e + k) then 1 else 0) := by
      show ctN _ (e + k) + _ = _
      simp
    cases hn : nu (e + k) with
    | true =>
      obtain ⟨h3, h4⟩ := hnS (e + k) (by omega) hn
      refine ⟨h3.trans h1, ?_⟩
      rw [hct, hn, show e + (k + 1) = e + k + 1 by omega, h4, h2]; simp; omega
    | false =>
      obtain ⟨p, hv, _⟩ := hS (e + k) (by omega)
      have hi : isE (fl.getD (e + k) (.mv 0 (.f 0))) = false := by
        cases hx : isE (fl.getD (e + k) (.mv 0 (.f 0))) with
        | false => rfl
        | true => have := h (e + k) (by omega) (by omega) hx; rw [hn] at this; cases this
      obtain ⟨h3, h4⟩ := dV_non hi hv
      refine ⟨h3.trans h1, ?_⟩
      rw [hct, hn, show e + (k + 1) = e + k + 1 by omega, h4, h2]; simp
theorem seq_F {fl : List I} {S : Nat → St} {V : Nat → AV} {Hr : List (Nat × Seg)} {m : Nat} (hS : ∀ j, j < m → ∃ p : Prop, dV κ Hr (S j) (fl.getD j (.mv 0 (.f 0))) = .ok p (V j) (S (j + 1)).H (S (j + 1)).nx ∧ p ∧ okd κ.nt (dI (fl.getD j (.mv 0 (.f 0)))) ∧ keepH Hr (S (j + 1)).H (isE (fl.getD j (.mv 0 (.f 0)))) ∧
      (S (j + 1)).F = pt (S j).F (dI (fl.getD j (.mv 0 (.f 0)))) (V j)) (hdst : ∀ i j d, i < m → j < m → dI (fl.getD i (.mv 0 (.f 0))) = some d → dI (fl.getD j (.mv 0 (.f 0))) = some d → i = j) :
    ∀ (j : Nat), j ≤ m → (∀ i d, i < j → dI (fl.getD i (.mv 0 (.f 0))) = some d → lkd .junk (S j).F d = V i) ∧ (∀ t, (∀ i, i < j → dI (fl.getD i (.mv 0 (.f 0))) ≠ some t) → lkd .junk (S j).F t = lkd .junk (S 0).F t)
  | 0, _ => ⟨fun i d hi => by omega, fun t _ => rfl⟩
  | j + 1, hj => by
    obtain ⟨h1, h2⟩ := seq_F hS hdst j (by omega)
    obtain ⟨p, _, _, _, _, hF⟩ := hS j (by omega)
    refine ⟨fun i d hi hd => ?_, fun t ht => ?_⟩
    · rw [hF, pt_get]
      by_cases e : i = j
      · subst e; rw [if_pos hd]
      · rw [if_neg]
        · exact h1 i d (by omega) hd
        · intro h; exact e (hdst i j d (by omega) (by omega) hd h)
    · rw [hF, pt_get, if_neg (ht j (by omega))]
      exact h2 t fun i hi => ht i (by omega)
theorem free {wk : Bool} {nu : Nat → Bool} (hct : CtOK κ.P κ.Gl κ.Ct) {E : Ent} (hE : κ.ok E) (hc : cOps ops ops.toList = some l) (D : DrawOK wk (ops.toList.map bsO) an m l) {Hr : List (Nat × Seg)} {S : Nat → St} {V : Nat → AV}
    (hS : ∀ j, j < m → ∃ p : Prop, dV κ Hr (S j) (l.getD j (.mv 0 (.f 0))) = .ok p (V j) (S (j + 1)).H (S (j + 1)).nx ∧ p ∧ okd κ.nt (dI (l.getD j (.mv 0 (.f 0)))) ∧ keepH Hr (S (j + 1)).H (isE (l.getD j (.mv 0 (.f 0)))) ∧ (S (j + 1)).F = pt (S j).F (dI (l.getD j (.mv 0 (.f 0)))) (V j))
    (hnE : ∀ j, j < m → nu j = true → isE (l.getD j (.mv 0 (.f 0))) = true) (hnS : ∀ j, j < m → nu j = true → (S (j + 1)).H = (S j).H ∧ (S (j + 1)).nx = (S j).nx + 1)
    (hnu : ∀ j, j < m → nu j = true → ∀ n', ∃ p : Prop, p ∧ dV κ Hr ⟨(S j).F, (S j).H, n'⟩ (l.getD j (.mv 0 (.f 0))) = .ok p (V j) (S j).H (n' + 1))
    (heff : ∀ i j, i < j → j < m → isE (l.getD i (.mv 0 (.f 0))) = true → isE (l.getD j (.mv 0 (.f 0))) = true → i ∈ an.getD j [] ∨ (nu i = true ∧ nu j = true))
    (hHr : ∀ id, lkf Hr id = none ∨ lkf Hr id = lkf (S 0).H id) {Q : Exit → Act → World → Prop}
    (hend : ∀ (fuel : Nat) (listed : Array Bool), l.length - m ≤ fuel → listed.size = l.length → (∀ i, i < l.length → listed.getD i false = decide (i < m)) → ∀ a w, Gam E (S m) a w → wpAnq E.P .any ops Q fuel listed a w) :
    ∀ (fuel : Nat) (listed : Array Bool), listed.size = l.length → cnt (fun i => listed.getD i false) l.length ≤ fuel → (∀ i, m ≤ i → i < l.length → listed.getD i false = false) →
      (∀ j, j < l.length → listed.getD j false = true → ∀ b ∈ (ops.toList.map bsO).getD j [], listed.getD b false = true) → ∀ a w, FInv nu E l S V m (fun i => listed.getD i false) a w → wpAnq E.P .any ops Q fuel listed a w := by
  obtain ⟨hlen, hget⟩ := cOps_get hc
  have hsz : ops.size = l.length := by simpa using hlen
  -- all that comes before an operation whose direct predecessors are done is done
  have hanc : ∀ (listed : Array Bool), (∀ j, j < l.length → listed.getD j false = true → ∀ b ∈ (ops.toList.map bsO).getD j [], listed.getD b false = true) →
      ∀ j, j < l.length → (∀ b ∈ (ops.toList.map bsO).getD j [], listed.getD b false = true) → ∀ x ∈ an.getD j [], listed.getD x false = true := by
    intro listed hcl j
    induction j using Nat.strongRecOn with
    | _ j ih =>
      intro hj hb x hx
      obtain ⟨b, h1, h2⟩ := D.anc j hj x hx
      rcases h2 with rfl | h2
      · exact hb _ h1
      · have hlt := D.back j hj b h1
        exact ih b hlt (by omega) (hcl b (by omega) (hb b h1)) x h2
  have hanlt : ∀ j, j < l.length → ∀ x ∈ an.getD j [], x < j := by
    intro j
    induction j using Nat.strongRecOn with
    | _ j ih =>
      intro hj x hx
      obtain ⟨b, h1, h2⟩ := D.anc j hj x hx
      have hlt := D.back j hj b h1
      rcases h2 with rfl | h2
      · exact hlt
      · have := ih b hlt (by omega) x h2; omega
  have hsub : ∀ e, e ≤ m → ∀ id, lkf Hr id = none ∨ lkf Hr id = lkf (S e).H id := by
    intro e
    induction e with
    | zero => intro _; exact hHr
    | succ e ih =>
      intro he
      obtain ⟨p, hv, _, _, hk, _⟩ := hS e (by omega)
      cases hi : isE (l.getD e (.mv 0 (.f 0))) with
      | true => rw [hi] at hk; exact subH_get hk
      | false => rw [(dV_non hi hv).1]; exact ih (by omega)
  have hpre : ∀ (f : Nat → Bool) (k : Nat), (∀ i, i < k → f i = decide (i < m)) → cnt f k = k - m := by
    intro f k
    induction k with
    | zero => intro _; simp [cnt]
    | succ k ih =>
      intro h
      simp only [cnt]
      rw [ih fun i hi => h i (by omega), h k (by omega)]
      by_cases hk : k < m
      · simp [hk]; omega
      · simp [hk]; omega
  have hdone : ∀ (listed : Array Bool), (∀ i, i < m → listed.getD i false = true) → ∀ a w, FInv nu E l S V m (fun i => listed.getD i false) a w → Gam E (S m) a w := by
    intro listed hall a w ⟨e, F, h1, h2, h3, h4, h5, ρ, N, r⟩
    obtain ⟨q1, q2⟩ := seq_F hS D.dst m (Nat.le_refl _)
    have hno : ∀ i, e ≤ i → i < e + (m - e) → isE (l.getD i (.mv 0 (.f 0))) = true → nu i = true := by
      intro i hi hi' hx
      cases hn : nu i with
      | true => rfl
      | false => exact absurd ((hall i (by omega)).symm.trans (h3 i hi (by omega) hx hn)) (by simp)
    obtain ⟨hH, hn⟩ := seq_H hS hnE hnS (m - e) (by omega) hno
    rw [show e + (m - e) = m by omega] at hH hn
    rw [ctN_congr (f := fun i => decide (e ≤ i) && nu i && listed.getD i false) (g := fun i => decide (e ≤ i) && nu i) m fun i hi => by simp only [hall i hi, Bool.and_true], ← hn] at r
    have hF : ∀ t, lkd .junk (S m).F t = .junk ∨ lkd .junk (S m).F t = lkd .junk F t := by
      intro t
      refine .inr ?_
      by_cases hw : ∃ i, i < m ∧ dI (l.getD i (.mv 0 (.f 0))) = some t
      · obtain ⟨i, hi, hd⟩ := hw
        rw [q1 i t hi hd, h4 i t hi (hall i hi) hd]
      · rw [q2 t fun i hi hd => hw ⟨i, hi, hd⟩, h5 t fun i hi _ hd => hw ⟨i, hi, hd⟩]
    have r' := r.less (Fm := (S m).F) (Hr := (S e).H) hF fun _ => .inr rfl
    refine ⟨ρ, N, ?_⟩
    have e1 : (⟨(S m).F, (S e).H, (S m).nx⟩ : St) = S m := by rw [← hH]
    rw [← e1]; exact r'
  intro fuel
  induction fuel with
  | zero =>
    intro listed hs hcnt hfr hcl a w hI
    have hall := cnt_zero l.length (Nat.le_zero.1 hcnt)
    have hm : m = l.length := by
      rcases Nat.lt_or_ge m l.length with h | h
      · have h1 := hall m h; have h2 := hfr m (Nat.le_refl _) h; rw [h2] at h1; cases h1
      · have := D.le; omega
    exact hend 0 listed (by omega) hs (fun i hi => by rw [show listed.getD i false = true from hall i hi]; simp; omega) a w (hdone listed (fun i hi => hall i (by omega)) a w hI)
  | succ fuel ih =>
    intro listed hs hcnt hfr hcl a w hI
    by_cases hall : ∀ i, i < m → listed.getD i false = true
    · have hpf : ∀ i, i < l.length → listed.getD i false = decide (i < m) := fun i hi => by
        by_cases h : i < m
        · rw [hall i h]; simp [h]
        · rw [hfr i (by omega) hi]; simp [h]
      have := hpre _ _ hpf
      exact hend (fuel + 1) listed (by omega) hs hpf a w (hdone listed hall a w hI)
    · have hmin : ∃ i, i < m ∧ listed.getD i false = false ∧ ∀ k, k < i → listed.getD k false = true := by
        have hex : ∃ i, i < m ∧ listed.getD i false = false := by
          apply Classical.byContradiction
          intro hne
          exact hall fun i hi => by
            cases hx : listed.getD i false with
            | true => rfl
            | false => exact absurd ⟨i, hi, hx⟩ hne
        obtain ⟨i, hi⟩ := hex
        induction i using Nat.strongRecOn with
        | _ i ihh =>
          by_cases h : ∃ k, k < i ∧ listed.getD k false = false
          · obtain ⟨k, h1, h2⟩ := h; exact ihh k h1 ⟨by omega, h2⟩
          · exact ⟨i, hi.1, hi.2, fun k hk => by
              cases hx : listed.getD k false with
              | true => rfl
              | false => exact absurd ⟨k, hk, hx⟩ h⟩
      obtain ⟨i0, g1, g2, g3⟩ := hmin
      have hml := D.le
      have hr0 : i0 ∈ Region.ready .any ops listed := by
        rw [ready_iff]
        exact ⟨by rw [getD_tf (by omega)]; exact g2, _, Array.getElem?_eq_getElem (by omega), fun b hb => g3 b (D.back i0 (by omega) b hb)⟩
      refine ⟨fun h0 => (by rw [h0] at hr0; cases hr0), fun i hi => ?_⟩
      obtain ⟨h1, o, ho, hb⟩ := ready_iff.1 hi
      have hlt : i < l.length := by rw [← hsz]; exact (Array.getElem?_eq_some_iff.1 ho).1
      have hun : listed.getD i false = false := by rw [← getD_tf (by omega)]; exact h1
      have hal := hanc listed hcl i hlt hb
      have him : i < m := by
        rcases Nat.lt_or_ge i m with h | h
        · exact h
        · exfalso
          rcases Nat.lt_or_ge m i with h2 | h2
          · have := hb _ (D.row i h2 hlt)
            rw [hfr (i - 1) (by omega) (by omega)] at this; cases this
          · have : i = m := by omega
            subst this
            exact hall fun k hk => hal k (D.mid hlt k hk)
      obtain ⟨e, F, e1, e2, e3, e4, e5, ρ, N, r⟩ := hI
      obtain ⟨p, hv, hp, hok, hk, hF⟩ := hS i him
      obtain ⟨q1, q2⟩ := seq_F hS D.dst i (by omega)
      have hlook : ∀ t ∈ slI (l.getD i (.mv 0 (.f 0))), lkd .junk (S i).F t = lkd .junk F t := by
        intro t ht
        by_cases hw : ∃ k, k < m ∧ dI (l.getD k (.mv 0 (.f 0))) = some t
        · obtain ⟨k, hkm, hd⟩ := hw
          have hka := D.look k i t hkm him hd ht
          rw [q1 k t (hanlt i hlt k hka) hd, e4 k t hkm (hal k hka) hd]
        · rw [q2 t fun k hk' hd => hw ⟨k, by omega, hd⟩, e5 t fun k hk' _ hd => hw ⟨k, hk', hd⟩]
      have hset : ∀ k, k ≠ i → (listed.setIfInBounds i true).getD k false = listed.getD k false := fun k hki => getD_set_ne false (Ne.symm hki)
      have hself : (listed.setIfInBounds i true).getD i false = true := by simp [show i < listed.size by omega]
      have hnext : ∀ a' w', FInv nu E l S V m (fun k => (listed.setIfInBounds i true).getD k false) a' w' → wpAnq E.P .any ops Q fuel (listed.setIfInBounds i true) a' w' := by
        intro a' w' hI'
        refine ih _ (by simpa using hs) ?_ (fun k hk1 hk2 => by rw [hset k (by omega)]; exact hfr k hk1 hk2) ?_ a' w' hI'
        · have := cnt_set (f := fun i => listed.getD i false) (g := fun k => (listed.setIfInBounds i true).getD k false) l.length hlt hun hself fun k hk => hset k hk
          omega
        · intro j hj hl b hbj
          have hbi : b = i ∨ listed.getD b false = true := by
            by_cases hji : j = i
            · subst hji; exact .inr (hb b hbj)
            · rw [hset j hji] at hl; exact .inr (hcl j hj hl b hbj)
          rcases hbi with rfl | hbi
          · exact hself
          · by_cases hb2 : b = i
            · subst hb2; exact hself
            · rw [hset b hb2]; exact hbi
      have new4 : ∀ k d, k < m → (listed.setIfInBounds i true).getD k false = true → dI (l.getD k (.mv 0 (.f 0))) = some d → lkd .junk (pt F (dI (l.getD i (.mv 0 (.f 0)))) (V i)) d = V k := by
        intro k d hk1 hk2 hd
        rw [pt_get]
        by_cases hki : k = i
        · subst hki; rw [if_pos hd]
        · rw [if_neg fun h => hki (D.dst k i d hk1 him hd h)]
          rw [hset k hki] at hk2
          exact e4 k d hk1 hk2 hd
      have new5 : ∀ t, (∀ k, k < m → (listed.setIfInBounds i true).getD k false = true → dI (l.getD k (.mv 0 (.f 0))) ≠ some t) → lkd .junk (pt F (dI (l.getD i (.mv 0 (.f 0)))) (V i)) t = lkd .junk (S 0).F t := by
        intro t ht
        rw [pt_get, if_neg (ht i him hself)]
        exact e5 t fun k hk1 hk2 => by
          by_cases hki : k = i
          · subst hki; exact ht k hk1 hself
          · exact ht k hk1 (by rw [hset k hki]; exact hk2)
      have hei : isE (l.getD i (.mv 0 (.f 0))) = true → e ≤ i := fun hie => by
        rcases Nat.lt_or_ge i e with h | h
        · exact absurd (hun.symm.trans (e2 i h hie)) (by simp)
        · exact h
      have hXno : isE (l.getD i (.mv 0 (.f 0))) = true → ∀ k, e ≤ k → k < e + (i - e) → isE (l.getD k (.mv 0 (.f 0))) = true → nu k = true := by
        intro hie k hk1 hk2 hx
        have := hei hie
        cases hn : nu k with
        | true => rfl
        | false =>
          rcases heff k i (by omega) him hx hie with h | h
          · exact absurd ((hal k h).symm.trans (e3 k hk1 (by omega) hx hn)) (by simp)
          · rw [hn] at h; cases h.1
      cases hie : isE (l.getD i (.mv 0 (.f 0))) with
      | false =>
        have hn : nu i = false := by
          cases hn : nu i with
          | false => rfl
          | true => have := hnE i him hn; rw [hie] at this; cases this
        refine wpOp_of ho (hget i o (by simpa using ho)) (dV_sound hct hE r hlook (fun h => by rw [hie] at h; cases h) (hsub e e1) hv hok hp
          (next := fun a' w' => wpAnq E.P .any ops Q fuel (listed.setIfInBounds i true) a' w') (Q := Q) fun a' w' hg => hnext a' w' ?_) (fun _ _ h => h) (fun _ _ _ h => h) (fun _ _ h => h)
        rw [hie] at hg
        simp only [Bool.false_eq_true, if_false] at hg
        refine ⟨e, _, e1, fun k hk1 hk2 => ?_, fun k hk1 hk2 hk3 hk4 => ?_, new4, new5, ?_⟩
        · simp only
          have hki : k ≠ i := by intro h; subst h; rw [hie] at hk2; cases hk2
          rw [hset k hki]; exact e2 k hk1 hk2
        · simp only
          have hki : k ≠ i := by intro h; subst h; rw [hie] at hk3; cases hk3
          rw [hset k hki]; exact e3 k hk1 hk2 hk3 hk4
        · rw [ctN_congr (f := fun k => decide (e ≤ k) && nu k && (listed.setIfInBounds i true).getD k false) (g := fun k => decide (e ≤ k) && nu k && listed.getD k false) m fun k hk => by
            by_cases hki : k = i
            · subst hki; simp only [hn, Bool.and_false, Bool.false_and]
            · simp only [hset k hki]]
          exact hg
      | true =>
        have hei' := hei hie
        obtain ⟨hH, hnx⟩ := seq_H hS hnE hnS (i - e) (e := e) (by omega) (hXno hie)
        rw [show e + (i - e) = i by omega] at hH hnx
        cases hn : nu i with
        | false =>
          have hbig : ∀ k, i ≤ k → k < m → nu k = true → listed.getD k false = false := by
            intro k hk1 hk2 hk3
            cases hx : listed.getD k false with
            | false => rfl
            | true =>
              have hki : i ≠ k := by intro h; subst h; rw [hn] at hk3; cases hk3
              rcases heff i k (by omega) hk2 hie (hnE k hk2 hk3) with h | h
              · have h1 := hanc listed hcl k (by omega) (hcl k (by omega) hx) i h
                rw [hun] at h1; cases h1
              · rw [hn] at h; cases h.1
          have hcq : ctN (fun k => decide (e ≤ k) && nu k && listed.getD k false) m = ctN (fun k => decide (e ≤ k) && nu k) i := by
            refine ctN_cut m (by omega) (fun k hk => ?_) fun k hk1 hk2 => ?_
            · cases hk3 : nu k with
              | false => simp
              | true =>
                rcases heff k i hk him (hnE k (by omega) hk3) hie with h | h
                · simp only [hal k h, Bool.and_true]
                · rw [hn] at h; cases h.2
            · cases hk3 : nu k with
              | false => simp
              | true => simp only [hbig k hk1 hk2 hk3, Bool.and_false]
          have hx0 : (S i).nx = (S e).nx + ctN (fun k => decide (e ≤ k) && nu k && listed.getD k false) m := by rw [hcq]; exact hnx
          refine wpOp_of ho (hget i o (by simpa using ho)) (dV_sound hct hE r hlook (fun _ => ⟨hH, hx0⟩) (hsub e e1) hv hok hp
            (next := fun a' w' => wpAnq E.P .any ops Q fuel (listed.setIfInBounds i true) a' w') (Q := Q) fun a' w' hg => hnext a' w' ?_) (fun _ _ h => h) (fun _ _ _ h => h) (fun _ _ h => h)
          rw [hie] at hg
          simp only [if_true] at hg
          refine ⟨i + 1, _, by omega, fun k hk1 hk2 => ?_, fun k hk1 hk2 hk3 hk4 => ?_, new4, new5, ?_⟩
          · by_cases hki : k = i
            · subst hki; exact hself
            · simp only
              rw [hset k hki]
              rcases heff k i (by omega) him hk2 hie with h | h
              · exact hal k h
              · rw [hn] at h; cases h.2
          · simp only
            rw [hset k (by omega)]
            cases hx : listed.getD k false with
            | false => rfl
            | true =>
              rcases heff i k (by omega) hk2 hie hk3 with h | h
              · have h1 := hanc listed hcl k (by omega) (hcl k (by omega) hx) i h
                rw [hun] at h1; cases h1
              · rw [hn] at h; cases h.1
          · rw [ctN_zero m fun k hk => by
              by_cases hk1 : i + 1 ≤ k
              · cases hk3 : nu k with
                | false => simp
                | true => simp only [hset k (by omega : k ≠ i), hbig k (by omega) hk hk3, Bool.and_false]
              · simp [hk1]]
            exact hg
        | true =>
          obtain ⟨p', hp', hv'⟩ := hnu i him hn ((S e).nx + ctN (fun k => decide (e ≤ k) && nu k && listed.getD k false) m)
          refine wpOp_of ho (hget i o (by simpa using ho)) (dV_sound hct hE r (s0 := ⟨(S i).F, (S i).H, (S e).nx + ctN (fun k => decide (e ≤ k) && nu k && listed.getD k false) m⟩) hlook (fun _ => ⟨hH, rfl⟩) (hsub e e1) hv' hok hp'
            (next := fun a' w' => wpAnq E.P .any ops Q fuel (listed.setIfInBounds i true) a' w') (Q := Q) fun a' w' hg => hnext a' w' ?_) (fun _ _ h => h) (fun _ _ _ h => h) (fun _ _ h => h)
          rw [hie] at hg
          simp only [if_true] at hg
          refine ⟨e, _, e1, fun k hk1 hk2 => ?_, fun k hk1 hk2 hk3 hk4 => ?_, new4, new5, ?_⟩
          · by_cases hki : k = i
            · subst hki; exact hself
            · simp only
              rw [hset k hki]; exact e2 k hk1 hk2
          · simp only
            have hki : k ≠ i := by intro h; subst h; rw [hn] at hk4; cases hk4
            rw [hset k hki]; exact e3 k hk1 hk2 hk3 hk4
          · rw [ctN_set (f := fun k => decide (e ≤ k) && nu k && listed.getD k false) (g := fun k => decide (e ≤ k) && nu k && (listed.setIfInBounds i true).getD k false) m him (by simp only [hun, Bool.and_false]) (by simp only [hself, hn, Bool.and_true, decide_eq_true_eq]; exact hei') fun k hk => by simp only [hset k hk]]
            rw [← hH, ← Nat.add_assoc]
            exact hg
theorem rep_get (n i : Nat) : (Array.replicate n false).getD i false = false := by
  rw [Array.getD_eq_getD_getElem?, Array.getElem?_replicate]; split <;> rfl
theorem AW_dr (hct : CtOK κ.P κ.Gl κ.Ct) {ok : Bool} {m : Nat} {ops : List I} {l : List C} {k : Stk} {s : St} (Hr : List (Nat × Seg)) (hok : ok = true) (hHr : ∀ id, lkf Hr id = none ∨ lkf Hr id = lkf s.H id) (h : dsem κ Hr (ops.take m) s fun s' => AW κ ((ops.drop m).map toC ++ l) k s') : AW κ (.dr ok m ops :: l) k s := by
  intro E hE a w hg
  simp only [cwp, cw1]
  refine fun opsA an hc _ hdr => ?_
  have D := drawOK_spec (hdr hok)
  have hml := D.le
  obtain ⟨S, V, e0, hK, hS⟩ := dsem_seq _ _ h
  have hlm : (ops.take m).length = m := by rw [List.length_take]; omega
  rw [hlm] at hK hS
  have hgd : ∀ j, j < m → (ops.take m).getD j (.mv 0 (.f 0)) = ops.getD j (.mv 0 (.f 0)) := fun j hj => by
    simp [List.getD_eq_getElem?_getD, List.getElem?_take, hj]
  have hS' : ∀ j, j < m → ∃ p : Prop, dV κ Hr (S j) (ops.getD j (.mv 0 (.f 0))) = .ok p (V j) (S (j + 1)).H (S (j + 1)).nx ∧ p ∧ okd κ.nt (dI (ops.getD j (.mv 0 (.f 0)))) ∧ keepH Hr (S (j + 1)).H (isE (ops.getD j (.mv 0 (.f 0)))) ∧ (S (j + 1)).F = pt (S j).F (dI (ops.getD j (.mv 0 (.f 0)))) (V j) := by
    intro j hj
    have := hS j hj
    rw [hgd j hj] at this
    exact this
  have hsz : opsA.size = ops.length := by have := (cOps_get hc).1; simpa using this
  rw [← hE.P]
  refine free (nu := fun _ => false) hct hE hc D hS' (fun _ _ h => by cases h) (fun _ _ h => by cases h) (fun _ _ h => by cases h) (fun i j h1 h2 h3 h4 => (D.eff i j h1 h2 h3 h4).elim .inl fun h => by cases h.1) (by rw [e0]; exact hHr) ?_ opsA.size _ (by simpa using hsz) ?_ ?_ ?_ a w.drew ?_
  · intro fuel listed h1 h2 h3 a w hg
    have := hK E hE a w hg
    rw [← hE.P] at this
    exact chain hc D l (conc E k) (ops.length - m) m (by omega) (Nat.le_refl _) fuel h1 listed h2 h3 a w this
  · rw [hsz]
    have : ∀ k, cnt (fun i => (Array.replicate ops.length false).getD i false) k ≤ k := by
      intro k
      induction k with
      | zero => simp [cnt]
      | succ k ih => simp only [cnt]; split <;> omega
    exact this _
  · intro i _ hi; exact rep_get _ _
  · intro j hj hl; rw [rep_get] at hl; cases hl
  · refine ⟨0, s.F, Nat.zero_le _, fun i hi => by omega, fun i _ _ _ _ => rep_get _ _, fun i d _ hL => absurd ((rep_get _ _).symm.trans hL) (by simp), fun t _ => by rw [e0], ?_⟩
    rw [e0, ctN_zero _ fun i _ => by simp]
    obtain ⟨ρ, N, r⟩ := hg
    exact ⟨ρ, N, r.drew⟩
end
end Go.Lv
namespace Go.Lv
open Go
theorem AW_ret {κ : Kt} {l : List C} {k : Stk} {s : St} (h : ∀ E : Ent, κ.ok E → ∀ a w, Gam E s a w → conc E k .ret a w) : AW κ (.ret :: l) k s := by
  intro E hE a w hg
  simp only [cwp, cw1, Exit.then]
  exact h E hE a w hg
theorem AW_ret' {κ : Kt} {l : List C} {k : Stk} {s : St} (h : AW κ (.ret :: l) k s) (E : Ent) (hE : κ.ok E) (a : Act) (w : World) (hg : Gam E s a w) : conc E k .ret a w := by
  have := h E hE a w hg
  simpa only [cwp, cw1, Exit.then] using this
theorem AW_ex {κ : Kt} {l : List C} {k : Stk} {s : St} {id : Nat} (h : ∀ E : Ent, κ.ok E → ∀ a w, Gam E s a w → conc E k (.exit id) a w) : AW κ (.ex id :: l) k s := by
  intro E hE a w hg
  simp only [cwp, cw1, Exit.then]
  exact h E hE a w hg
theorem AW_ex' {κ : Kt} {l : List C} {k : Stk} {s : St} {id : Nat} (h : AW κ (.ex id :: l) k s) (E : Ent) (hE : κ.ok E) (a : Act) (w : World) (hg : Gam E s a w) : conc E k (.exit id) a w := by
  have := h E hE a w hg
  simpa only [cwp, cw1, Exit.then] using this
theorem AW_nil {κ : Kt} {k : Stk} {s : St} (h : AW κ [] k s) (E : Ent) (hE : κ.ok E) (a : Act) (w : World) (hg : Gam E s a w) : conc E k .normal a w := by
  have := h E hE a w hg
  simpa only [cwp] using this
theorem sGd {κ : Kt} {g : Nat} {b : Bool} {i : I} {l : List C} {k : Stk} {s : St} {p : Bool} (hp : lkd .junk s.F g = .b p)
    (h1 : p = b → AW κ (.o i :: l) k s) (h2 : p ≠ b → AW κ l k (match dI i with | some d => if d < κ.nt then s.put d (.tup []) else s | none => s)) : AW κ (.o (.gd g b i) :: l) k s := by
  intro E hE a w ⟨ρ, N, r⟩
  simp only [cwp, cw1]
  intro ops o hc
  obtain ⟨hi, hw⟩ := gd_wanted r hc hp
  obtain ⟨hn, hd⟩ := cOp_ng hi
  rw [hw]
  by_cases hpb : p = b
  · subst hpb
    rw [if_pos (by simp)]
    have := h1 rfl E hE a w ⟨ρ, N, r⟩
    simp only [cwp, cw1] at this
    have := this ops { o with guard := none } hi
    rw [if_pos (by rfl), Oper.wp_guard] at this
    exact this
  · rw [if_neg (by simpa using hpb)]
    refine h2 hpb E hE _ _ ?_
    cases ho : o.dst with
    | none => rw [ho] at hd; rw [hd]; exact ⟨ρ, N, r⟩
    | some d =>
      rw [ho] at hd; rw [hd]
      simp only
      split
      · rename_i hlt; exact ⟨ρ, N, r.put (by rw [hE.nt]; exact hlt) (G_undef _)⟩
      · rename_i hlt
        rw [put_out (by rw [r.sz, hE.nt]; omega)]
        exact ⟨ρ, N, r⟩
theorem sGn {κ : Kt} {g : Nat} {b : Bool} {i : I} {l : List C} {k : Stk} {s : St} (hp : lkd .junk s.F g = .tup [])
    (h2 : AW κ l k (match dI i with | some d => if d < κ.nt then s.put d (.tup []) else s | none => s)) : AW κ (.o (.gd g b i) :: l) k s := by
  intro E hE a w ⟨ρ, N, r⟩
  simp only [cwp, cw1]
  intro ops o hc
  obtain ⟨hi, hw⟩ := gd_none r hc hp
  obtain ⟨hn, hd⟩ := cOp_ng hi
  rw [hw, if_neg (by simp)]
  refine h2 E hE _ _ ?_
  cases ho : o.dst with
  | none => rw [ho] at hd; rw [hd]; exact ⟨ρ, N, r⟩
  | some d =>
    rw [ho] at hd; rw [hd]
    simp only
    split
    · rename_i hlt; exact ⟨ρ, N, r.put (by rw [hE.nt]; exact hlt) (G_undef _)⟩
    · rename_i hlt
      rw [put_out (by rw [r.sz, hE.nt]; omega)]
      exact ⟨ρ, N, r⟩
theorem sGdY {κ : Kt} {g : Nat} {b : Bool} {i : I} {l : List C} {k : Stk} {s : St} {p : Bool} (hp : lkd .junk s.F g = .b p)
    (h1 : p = b → AW κ (.y i :: l) k s) (h2 : p ≠ b → AW κ l k (match dI i with | some d => if d < κ.nt then s.put d (.tup []) else s | none => s)) : AW κ (.y (.gd g b i) :: l) k s := by
  by_cases hpb : p = b
  · intro E hE a w ⟨ρ, N, r⟩
    have := h1 hpb E hE a w ⟨ρ, N, r⟩
    simp only [cwp, cw1] at this ⊢
    rcases this with h | h
    · left
      intro ops o hc
      obtain ⟨hi, hw⟩ := gd_wanted r hc hp
      rw [hw, if_pos (by simp [hpb])]
      have := h ops { o with guard := none } hi
      rw [if_pos (by rfl), Oper.wp_guard] at this
      exact this
    · right
      intro ops o hc
      obtain ⟨hi, hw⟩ := gd_wanted r hc hp
      refine ⟨by rw [hw]; simp [hpb], ?_⟩
      exact (h ops { o with guard := none } hi).2
  · have h3 : AW κ (.o (.gd g b i) :: l) k s := sGd hp (fun e => absurd e hpb) h2
    intro E hE a w hg
    have := h3 E hE a w hg
    simp only [cwp, cw1] at this ⊢
    exact .inl this
theorem sGnY {κ : Kt} {g : Nat} {b : Bool} {i : I} {l : List C} {k : Stk} {s : St} (hp : lkd .junk s.F g = .tup [])
    (h2 : AW κ l k (match dI i with | some d => if d < κ.nt then s.put d (.tup []) else s | none => s)) : AW κ (.y (.gd g b i) :: l) k s := by
  have h3 : AW κ (.o (.gd g b i) :: l) k s := sGn hp h2
  intro E hE a w hg
  have := h3 E hE a w hg
  simp only [cwp, cw1] at this ⊢
  exact .inl this
theorem st1_sound {κ : Kt} (hct : CtOK κ.P κ.Gl κ.Ct) : ∀ (l : List C) (k : Stk) (s : St), (st1 κ l k s).sem κ → AW κ l k s := by
  intro l k s h
  unfold st1 at h
  split at h
  · intro E hE a w hg; simp only [cwp, conc]; exact ⟨.inl trivial, s, hg, h⟩
  · intro E hE a w hg; have := h.2 E hE a w hg; simp only [cwp, conc, Exit.then]; rw [hE.P]; exact this
  · intro E hE a w hg; have := AW_nil h.2 E hE a w hg; simp only [cwp, conc, Exit.inBlock]; exact this
  · intro E hE a w hg; simp only [cwp, conc, Exit.then]; exact ⟨s, hg, h⟩
  · exact h
  · intro E hE a w hg; simp only [cwp, conc]; exact ⟨s, hg, h⟩
  · exact h
  · rename_i k s g b i l
    split at h
    · rename_i p hp
      simp only [Res.sem] at h
      refine sGd hp (fun e => h.1 (by subst e; cases p <;> rfl)) (fun e => h.2 (by cases p <;> cases b <;> simp at e ⊢))
    · split at h
      · rename_i ht; exact sGn (isU_T ht) h.2
      · exact h.elim
  · rename_i k s g b i l
    split at h
    · rename_i p hp
      simp only [Res.sem] at h
      refine sGdY hp (fun e => h.1 (by subst e; cases p <;> rfl)) (fun e => h.2 (by cases p <;> cases b <;> simp at e ⊢))
    · split at h
      · rename_i ht; exact sGnY (isU_T ht) h.2
      · exact h.elim
  · rename_i k s i l _
    split at h
    · exact h
    · intro E hE a w hg; have := h.2 E hE a w hg; simp only [cwp, cw1] at this ⊢; exact .inl this
  · rename_i k s i l hi
    have hn : ng i = true := by cases i <;> first | rfl | exact absurd rfl (hi _ _ _)
    split at h
    · rename_i d hd; exact sQ hn hd h
    · exact sE hct h
  · rename_i k s x A B l
    split at h
    · rename_i t ht
      simp only [Res.sem] at h
      intro E hE a w hg
      obtain ⟨ρ, N, r⟩ := id hg
      simp only [cwp, cw1]
      intro x' hx
      have gx := evx_sound r x'
      rw [hx, hE.Gl, ht] at gx
      simp only [G] at gx
      refine ⟨t, gx, fun e => ?_, fun e => ?_⟩
      · have := h.1 e E hE a w hg; simp only [conc] at this; rw [hE.P] at this; exact this
      · have := h.2 e E hE a w hg; simp only [conc] at this; rw [hE.P] at this; exact this
    · exact h.elim
  · intro E hE a w hg; have := h.2 E hE a w hg; simp only [conc] at this; rw [hE.P] at this; simp only [cwp, cw1]; exact this
  · exact AW_ret fun E hE a w hg => by simp only [conc]; exact ⟨.inr trivial, _, hg, h⟩
  · exact AW_ret fun E hE a w hg => by simp only [conc, Exit.then]; exact AW_ret' h.2 E hE a w hg
  · exact AW_ret fun E hE a w hg => by simp only [conc, Exit.inBlock]; exact AW_ret' h.2 E hE a w hg
  · exact AW_ret fun E hE a w hg => by simp only [conc, Exit.then]; exact AW_ret' h.2 E hE a w hg
  · exact AW_ret fun E hE a w hg => AW_ret' h E hE a w hg
  · exact AW_ret fun E hE a w hg => by simp only [conc]; exact ⟨_, hg, h⟩
  · exact AW_ret fun E hE a w hg => by simp only [conc, Exit.then]; exact AW_ret' h.2 E hE a w hg
  · exact h.elim
  · exact AW_ex fun E hE a w hg => by simp only [conc, Exit.then]; exact AW_ex' h.2 E hE a w hg
  · rename_i id l id' k s
    split at h
    · rename_i e; subst e
      exact AW_ex fun E hE a w hg => by simp only [conc, Exit.inBlock, if_true]; exact AW_nil h.2 E hE a w hg
    · rename_i e
      exact AW_ex fun E hE a w hg => by simp only [conc, Exit.inBlock, if_neg e]; exact AW_ex' h.2 E hE a w hg
  · exact AW_ex fun E hE a w hg => by simp only [conc, Exit.then]; exact AW_ex' h.2 E hE a w hg
  · exact AW_ex fun E hE a w hg => AW_ex' h E hE a w hg
  · exact AW_ex fun E hE a w hg => by simp only [conc]; exact ⟨_, hg, h⟩
  · exact AW_ex fun E hE a w hg => by simp only [conc, Exit.then]; exact AW_ex' h.2 E hE a w hg
  · exact AW_dr hct _ h.1 (fun _ => .inr rfl) h.2
  · exact h
theorem run_sound {κ : Kt} (hct : CtOK κ.P κ.Gl κ.Ct) : ∀ (n : Nat) (r : Res), run κ n r → r.sem κ
  | _, .stop P, h => by simpa [run, Res.sem] using h
  | 0, .go p l k s, h => by simpa [run, Res.sem] using h
  | 0, .br t l1 s1 l2 s2 k, h => by simpa [run, Res.sem] using h
  | 0, .dr p Hr fl l k s, h => by simpa [run, Res.sem] using h
  | n + 1, .dr p Hr [] l k s, h => by
    simp only [run] at h
    split at h
    · rename_i hp; exact ⟨hp, (run_sound hct n _ h).2⟩
    · exact h.elim
  | n + 1, .dr p Hr (i :: fl) l k s, h => by
    simp only [run] at h
    split at h
    · rename_i hp
      have h' := run_sound hct n _ h
      refine ⟨hp, ?_⟩
      simp only [dsem]
      cases hv : dV κ Hr s i with
      | no => rw [hv] at h'; exact h'.elim
      | un => rw [hv] at h'; exact h'.elim
      | ok p v H n => rw [hv] at h'; exact ⟨h'.1.1, h'.1.2.1, h'.1.2.2, h'.2⟩
    · exact h.elim
  | n + 1, .go p l k s, h => by
    simp only [run] at h
    split at h
    · rename_i hp; exact ⟨hp, st1_sound hct _ _ _ (run_sound hct n _ h)⟩
    · exact h.elim
  | n + 1, .br t l1 s1 l2 s2 k, h => by
    simp only [run] at h
    exact ⟨fun e => st1_sound hct _ _ _ (run_sound hct n _ (h.1 e)), fun e => st1_sound hct _ _ _ (run_sound hct n _ (h.2 e))⟩
theorem AW_run {κ : Kt} (hct : CtOK κ.P κ.Gl κ.Ct) (n : Nat) {l : List C} {k : Stk} {s : St} (h : run κ n (.go True l k s)) : AW κ l k s := (run_sound hct n _ h).2
theorem run_go (κ : Kt) (n : Nat) (l : List C) (k : Stk) (s : St) : run κ (n + 1) (.go True l k s) = run κ n (st1 κ l k s) := by simp [run]
theorem run_d0 (κ : Kt) (n : Nat) (Hr : List (Nat × Seg)) (l : List C) (k : Stk) (s : St) : run κ (n + 1) (.dr True Hr [] l k s) = run κ n (.go True l k s) := by simp [run]
theorem run_d1 (κ : Kt) (n : Nat) (Hr : List (Nat × Seg)) (i : I) (fl : List I) (l : List C) (k : Stk) (s : St) : run κ (n + 1) (.dr True Hr (i :: fl) l k s) = run κ n (dr4 κ Hr i fl l k s (dV κ Hr s i)) := by simp [run]
theorem run_stop (κ : Kt) (n : Nat) (P : Prop) : run κ n (.stop P) = P := by cases n <;> rfl
theorem run_t (κ : Kt) (n : Nat) (l1 l2 : List C) (s1 s2 : St) (k : Stk) : run κ (n + 1) (.br true l1 s1 l2 s2 k) = run κ (n + 1) (.go True l1 k s1) := by simp [run]
theorem run_f (κ : Kt) (n : Nat) (l1 l2 : List C) (s1 s2 : St) (k : Stk) : run κ (n + 1) (.br false l1 s1 l2 s2 k) = run κ (n + 1) (.go True l2 k s2) := by simp [run]
theorem run_br {κ : Kt} {n : Nat} {t : Bool} {l1 l2 : List C} {s1 s2 : St} {k : Stk} (h1 : t = true → run κ (n + 1) (.go True l1 k s1)) (h2 : t = false → run κ (n + 1) (.go True l2 k s2)) : run κ (n + 1) (.br t l1 s1 l2 s2 k) := by
  simp only [run]; exact ⟨fun e => by simpa [run] using h1 e, fun e => by simpa [run] using h2 e⟩
end Go.Lv
