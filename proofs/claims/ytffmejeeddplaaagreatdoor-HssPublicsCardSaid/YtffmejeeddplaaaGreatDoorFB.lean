/- The abstract walk: an own kit for walks over this program (part FB). -/
import Derived.Test.YtffmejeeddplaaaGreatDoorFA
import Derived.Scope
import Derived.RangeFuncRecord
import Derived.OrdersIn
set_option linter.all false
namespace Go.Lv
open Go
inductive X where
  | t (n : Nat)
  | c (v : AV)
  | f (n : Nat)
  | g (n : Nat)
inductive I where
  | mv (d : Nat) (x : X)
  | pick (d : Nat) (c x y : X)
  | al (d : Nat) (t : TypeId)
  | bx (d : Nat) (t : TypeId) (x : X)
  | bld (d : Nat) (t : TypeId) (ps : List (Nat × X))
  | bsl (d : Nat) (t : TypeId) (n : Nat) (ps : List (Nat × X))
  | ld (d : Nat) (t : TypeId) (p : X)
  | st (t : TypeId) (p x : X)
  | nc (d : Nat) (x : X)
  | bin (d : Nat) (op : BinOp) (t : TypeId) (x y : X)
  | un (d : Nat) (op : UnOp) (x : X)
  | cv (d : Nat) (s t : TypeId) (x : X)
  | sap (d : Nat) (t : TypeId) (x : X)
  | mki (d : Nat) (t : TypeId) (x : X)
  | mkf (d : Nat) (fn : Fn) (fs cs : List X)
  | msl (d : Nat) (t : TypeId) (l c : X)
  | slc (d : Nat) (t : TypeId) (x : X) (lo hi mx : Option X)
  | fa (d : Nat) (t : TypeId) (x : X) (f : Nat)
  | fld (d : Nat) (t : TypeId) (x : X) (f : Nat)
  | ia (d : Nat) (t : TypeId) (x i : X)
  | ixv (d : Nat) (t : TypeId) (x i : X)
  | ext (d : Nat) (x : X) (n : Nat)
  | call (d : Nat) (f : X) (as : List X)
  | inv (d : Nat) (r : X) (m : String) (as : List X)
  | len (d : Nat) (t : TypeId) (x : X)
  | app (d : Nat) (t u : TypeId) (s x : X)
  | cpy (d : Nat) (t u : TypeId) (s x : X)
  | clr (d : Nat) (t : TypeId) (x : X)
  | clz (t : TypeId) (x : X)
  | min (d : Nat) (x y : X)
  | max (d : Nat) (x y : X)
  | gd (g : Nat) (b : Bool) (i : I)
def cellsOK : List Value → Bool
  | [] => true
  | v :: vs => v.oneCell' && cellsOK vs
def ofConst : Value → AV
  | .agg cs => if cellsOK cs.toList then .agg (cs.toList.map ofC1) else .junk
  | v => ofC1 v
def cX : Operand → X
  | .tmp t => .t t
  | .const v => .c (ofConst v)
  | .global g => .g g
  | .func f => .f f
def cBlt (d : Tmp) : Builtin → List Operand → List TypeId → Option I
  | .len, [x], [t] => some (.len d t (cX x))
  | .append, [s, x], [t, u] => some (.app d t u (cX s) (cX x))
  | .copy, [s, x], [t, u] => some (.cpy d t u (cX s) (cX x))
  | .clear, [x], [t] => some (.clr d t (cX x))
  | .min, [x, y], _ => some (.min d (cX x) (cX y))
  | .max, [x, y], _ => some (.max d (cX x) (cX y))
  | _, _, _ => none
def clzO (c : Call) : Option I := match c.callee, c.args.toList, c.argTypes.toList with
  | .builtin .clear, [x], [t] => some (.clz t (cX x))
  | _, _, _ => none
theorem clzO_is {c : Call} {i : I} (h : clzO c = some i) : ∃ t x, i = .clz t x ∧ ∃ x', c = ⟨.builtin .clear, #[x'], #[t]⟩ ∧ cX x' = x := by
  obtain ⟨ce, az, ts⟩ := c
  unfold clzO at h
  split at h
  · rename_i x t h1 h2 h3
    simp only at h1 h2 h3
    cases h
    obtain rfl : az = #[x] := Array.toList_inj.1 (by simpa using h2)
    obtain rfl : ts = #[t] := Array.toList_inj.1 (by simpa using h3)
    exact ⟨t, _, rfl, x, by rw [h1], rfl⟩
  · cases h
def cOp (d : Option Tmp) : Op → Option I
  | .move x => d.map fun d => .mv d (cX x)
  | .assign x => d.map fun d => .mv d (cX x)
  | .pick c a b => d.map fun d => .pick d (cX c) (cX a) (cX b)
  | .alloc t => d.map fun d => .al d t
  | .box t x => d.map fun d => .bx d t (cX x)
  | .build t ps => d.map fun d => .bld d t (ps.toList.map fun p => (p.1, cX p.2))
  | .buildSlice t n ps => d.map fun d => .bsl d t n (ps.toList.map fun p => (p.1, cX p.2))
  | .load t p => d.map fun d => .ld d t (cX p)
  | .store t p x => if d.isNone then some (.st t (cX p) (cX x)) else none
  | .nilCheck x => d.map fun d => .nc d (cX x)
  | .binOp op t x y _ => d.map fun d => .bin d op t (cX x) (cX y)
  | .unOp op _ x => d.map fun d => .un d op (cX x)
  | .convert s t x => d.map fun d => .cv d s t (cX x)
  | .sliceToArrayPointer t x => d.map fun d => .sap d t (cX x)
  | .makeInterface t x => d.map fun d => .mki d t (cX x)
  | .makeFunc fn fs cs => d.map fun d => .mkf d fn (fs.toList.map cX) (cs.toList.map cX)
  | .makeSlice t l c => d.map fun d => .msl d t (cX l) (cX c)
  | .slice t x lo hi mx => d.map fun d => .slc d t (cX x) (lo.map cX) (hi.map cX) (mx.map cX)
  | .fieldAddr t x f => d.map fun d => .fa d t (cX x) f
  | .field t x f => d.map fun d => .fld d t (cX x) f
  | .indexAddr t x i => d.map fun d => .ia d t (cX x) (cX i)
  | .index t x i => d.map fun d => .ixv d t (cX x) (cX i)
  | .extract x n => d.map fun d => .ext d (cX x) n
  | .call c => match d with
    | some d => (match c.callee with
      | .value f => some (.call d (cX f) (c.args.toList.map cX))
      | .invoke r m => some (.inv d (cX r) m (c.args.toList.map cX))
      | .builtin b => cBlt d b c.args.toList c.argTypes.toList)
    | none => clzO c
  | _ => none
def gslot (ops : Array Oper) (j : Nat) : Option Tmp := (ops[j]?).bind (·.dst)
def cI (ops : Array Oper) (o : Oper) : Option I :=
  match o.guard with
  | none => cOp o.dst o.op
  | some (j, b) => match gslot ops j, cOp o.dst o.op with
    | some g, some i => some (.gd g b i)
    | _, _ => none
def evx (Gl : List (Nat × List AV)) (F : List (Nat × AV)) : X → AV
  | .t n => lkd .junk F n
  | .c v => v
  | .f n => .fn (.func n) [] []
  | .g n => match lkf Gl n with
    | some cs => .rop false cs
    | none => .junk
theorem cellsOK_iff : ∀ (vs : List Value), cellsOK vs = true ↔ ∀ u ∈ vs, u.oneCell' = true
  | [] => by simp [cellsOK]
  | v :: vs => by simp [cellsOK, cellsOK_iff vs]
theorem GL_ofC1 (c : Cx) : ∀ (vs : List Value), GL (vs.map ofC1) c vs
  | [] => by simp [GL]
  | v :: vs => by simp only [List.map_cons, GL]; exact ⟨v, vs, rfl, G_ofC1 v c, GL_ofC1 c vs⟩
theorem G_ofConst (v : Value) (c : Cx) : G (ofConst v) c v := by
  unfold ofConst
  split
  · split
    · rename_i h; simp only [G]; exact ⟨_, rfl, (cellsOK_iff _).1 h, GL_ofC1 c _⟩
    · simp only [G]
  · exact G_ofC1 v c
section
variable {E : Ent} {s : St} {ρ : Nat → Option (Option Nat)} {N : Nat → Prop} {a : Act} {w : World}
theorem evx_sound (r : Rel E s ρ N a w) (x : Operand) : G (evx E.Gl s.F (cX x)) (E.cx w N ρ) (a.eval x) := by
  cases x with
  | tmp t => exact r.fr t
  | const v => exact G_ofConst v _
  | func f => simp only [cX, evx, G, Act.eval]; exact ⟨_, _, rfl, by simp [GL], by simp [GL]⟩
  | global g =>
    simp only [cX, evx, Act.eval]
    cases hg : lkf E.Gl g with
    | none => simp [G]
    | some cs =>
      obtain ⟨h1, h2⟩ := r.glob g cs hg
      simp only [G]
      exact ⟨g, 0, rfl, h1, by simp, GC_mono (c := (E.cx w N ρ).rf) (c' := (E.cx w N ρ).ro) ⟨fun _ h => h, fun _ _ => rfl, fun _ _ h => by simp [Cx.rf] at h, fun _ h => h.elim, fun _ cells T fz h => ⟨cells, T, fz, h, rfl⟩⟩ (fun _ => rfl) _ h2⟩
end
end Go.Lv
namespace Go.Lv
open Go
def AV.cells : AV → List AV
  | .agg cs => cs
  | v => [v]
def AV.cell : AV → Bool
  | .tup _ => false
  | .junk => false
  | _ => true
theorem G_one {x : AV} {c : Cx} {v : Value} (h : G x c v) (hx : x.cell = true) (ha : ∀ cs, x ≠ .agg cs) : v.oneCell' = true ∧ v.cells = #[v] := by
  cases x <;> simp only [AV.cell, Bool.false_eq_true] at hx <;> simp only [G] at h
  case agg cs => exact absurd rfl (ha cs)
  case ptr => obtain ⟨_, _, rfl⟩ := h; exact ⟨rfl, rfl⟩
  case rop => obtain ⟨_, _, rfl, _⟩ := h; exact ⟨rfl, rfl⟩
  case sl => rcases h with ⟨_, _, rfl⟩ | ⟨_, _, _, _, _, _, _, _, _, _, _, rfl⟩ <;> exact ⟨rfl, rfl⟩
  case ros => rcases h with ⟨_, _, _, rfl⟩ | ⟨_, _, _, rfl, _⟩ <;> exact ⟨rfl, rfl⟩
  case fn => obtain ⟨_, _, rfl, _⟩ := h; exact ⟨rfl, rfl⟩
  case ifc => obtain ⟨_, rfl, _⟩ := h; exact ⟨rfl, rfl⟩
  all_goals (subst h; exact ⟨rfl, rfl⟩)
theorem G_cells {x : AV} {c : Cx} {v : Value} (h : G x c v) (hx : x.cell = true) : GL x.cells c v.cells.toList ∧ ∀ u ∈ v.cells.toList, u.oneCell' = true := by
  by_cases ha : ∃ cs, x = .agg cs
  · obtain ⟨cs, rfl⟩ := ha
    simp only [G] at h
    obtain ⟨vs, rfl, h1, h2⟩ := h
    exact ⟨h2, h1⟩
  · have ha' : ∀ cs, x ≠ .agg cs := fun cs e => ha ⟨cs, e⟩
    obtain ⟨h1, h2⟩ := G_one h hx ha'
    rw [h2]
    have e : x.cells = [x] := by cases x <;> first | rfl | exact absurd rfl (ha' _)
    rw [e]
    exact ⟨by simp only [GL]; exact ⟨v, [], rfl, h, rfl⟩, by simpa using h1⟩
theorem zipIdx_set (off : Nat) : ∀ (us : List Value) (k : Nat) (arr : Array Value), off + k + us.length ≤ arr.size →
    ((us.zipIdx k).foldl (fun cs (p : Value × Nat) => cs.setIfInBounds (off + p.2) p.1) arr).toList = arr.toList.take (off + k) ++ us ++ arr.toList.drop (off + k + us.length)
  | [], k, arr, _ => by simp
  | u :: us, k, arr, h => by
    simp only [List.zipIdx_cons, List.foldl_cons]
    rw [zipIdx_set off us (k + 1) _ (by simp at h ⊢; omega)]
    have hl : off + k + (us.length + 1) ≤ arr.toList.length := by simp at h ⊢; omega
    have := list_seg_step arr.toList (off + k) u us hl
    simpa [Array.toList_setIfInBounds, Nat.add_assoc] using this
def fillP (pl : Nat → Option (Nat × Nat)) (zero : List AV) : Nat → List (Nat × AV) → Prop × List AV
  | pos, [] => (True, zero.drop pos)
  | pos, (i, x) :: r => match pl i with
    | some (off, size) => ((x.cell = true ∧ x.cells.length = size ∧ pos ≤ off ∧ off + size ≤ zero.length) ∧ (fillP pl zero (off + size) r).1, (zero.drop pos).take (off - pos) ++ (x.cells ++ (fillP pl zero (off + size) r).2))
    | none => (False, [])
theorem spl_length (cs : List AV) (off : Nat) (xs : List AV) (h : off + xs.length ≤ cs.length) : (spl cs off xs).length = cs.length := by
  unfold spl; split
  · simp
  · simp; omega
theorem GL_spl {c : Cx} {cells xs : List AV} {vs us : List Value} (h : GL cells c vs) (hx : GL xs c us) {off : Nat} (hl : off + xs.length ≤ cells.length) :
    GL (spl cells off xs) c (vs.take off ++ us ++ vs.drop (off + us.length)) := by
  have l1 := GL_length h
  have l2 := GL_length hx
  rw [GL_iff] at h hx ⊢
  refine ⟨by rw [spl_length _ _ _ hl]; simp; omega, fun j x v hj hv => ?_⟩
  rw [spl_eq _ _ _ hl] at hj
  rw [getElem?_splice _ _ _ (by omega)] at hv
  by_cases h1 : j < off
  · rw [if_pos h1] at hj hv; exact h.2 _ _ _ hj hv
  · rw [if_neg h1] at hj hv
    by_cases h2 : j < off + xs.length
    · rw [if_pos h2] at hj; rw [if_pos (by omega)] at hv; exact hx.2 _ _ _ hj hv
    · rw [if_neg h2] at hj; rw [if_neg (by omega)] at hv; exact h.2 _ _ _ hj hv
theorem spl_done (done zero xs : List AV) (off : Nat) (h1 : done.length ≤ off) (h2 : off + xs.length ≤ zero.length) :
    spl (done ++ zero.drop done.length) off xs = (done ++ (zero.drop done.length).take (off - done.length) ++ xs) ++ zero.drop (off + xs.length) := by
  apply List.ext_getElem?
  intro j
  rw [spl_eq _ _ _ (by simp; omega)]
  have e1 : (done ++ zero.drop done.length)[j]? = if j < done.length then done[j]? else zero[j]? := by
    rw [List.getElem?_append]; split
    · rfl
    · rw [List.getElem?_drop]; congr 1; omega
  rw [e1]
  have l1 : ((zero.drop done.length).take (off - done.length)).length = off - done.length := by simp; omega
  rw [List.getElem?_append, List.getElem?_append, List.getElem?_append]
  simp only [List.length_append, l1]
  rw [show done.length + (off - done.length) = off from by omega]
  by_cases a1 : j < off
  · have a3 : j < off + xs.length := by omega
    by_cases a2 : j < done.length
    · simp only [a1, a2, a3, if_true]
    · simp only [a1, a2, a3, if_true, if_false]
      rw [List.getElem?_take, if_pos (by omega), List.getElem?_drop]; congr 1; omega
  · have a2 : ¬ j < done.length := by omega
    by_cases a3 : j < off + xs.length
    · simp only [a1, a3, if_true, if_false]
    · simp only [a1, a2, a3, if_false]
      rw [List.getElem?_drop]; congr 1; omega
theorem fill_sound' {c : Cx} {pl pl' : Nat → Option (Nat × Nat)} (hpl : ∀ i p, pl i = some p → pl' i = some p) (zero : List AV) : ∀ (ps : List (Nat × AV)) (qs : List (Nat × Value)) (done : List AV) (arr : Array Value),
    (∀ u ∈ arr.toList, u.oneCell' = true) → done.length ≤ zero.length → GL (done ++ zero.drop done.length) c arr.toList → ps.map (·.1) = qs.map (·.1) → GL (ps.map (·.2)) c (qs.map (·.2)) → (fillP pl zero done.length ps).1 →
    ∃ arr', Instr.fill pl' arr qs = some arr' ∧ (∀ u ∈ arr'.toList, u.oneCell' = true) ∧ GL (done ++ (fillP pl zero done.length ps).2) c arr'.toList ∧ arr'.size = arr.size
  | [], qs, done, arr, h1, _, hg, he, _, _ => by
    cases qs with
    | nil => exact ⟨arr, rfl, h1, hg, rfl⟩
    | cons q qs => simp at he
  | (i, x) :: ps, qs, done, arr, h1, hdl, hg, he, hv, hc => by
    cases qs with
    | nil => simp at he
    | cons q qs =>
      obtain ⟨i', v⟩ := q
      simp only [List.map_cons, List.cons.injEq] at he
      obtain ⟨rfl, he⟩ := he
      simp only [List.map_cons, GL] at hv
      obtain ⟨v', vs', e, hx, hv⟩ := hv
      simp only [List.cons.injEq] at e
      obtain ⟨rfl, rfl⟩ := e
      simp only [fillP] at hc ⊢
      cases hp : pl i with
      | none => simp [hp] at hc
      | some p =>
        obtain ⟨off, size⟩ := p
        simp only [hp] at hc ⊢
        obtain ⟨⟨hcell, hsz, hpos, hfit⟩, hc⟩ := hc
        obtain ⟨g1, g2⟩ := G_cells hx hcell
        have hl := GL_length g1
        have hla := GL_length hg
        have hzl : arr.size = zero.length := by simp at hla; omega
        have hsz' : v.cells.size = size := by rw [← hsz, hl]; simp
        have hset := zipIdx_set off v.cells.toList 0 arr (by simp; omega)
        simp only [Nat.add_zero] at hset
        have hz : v.cells.zipIdx.foldl (fun cs (c, j) => cs.setIfInBounds (off + j) c) arr = (v.cells.toList.zipIdx 0).foldl (fun cs (p : Value × Nat) => cs.setIfInBounds (off + p.2) p.1) arr := by
          rw [← Array.foldl_toList]; simp [Array.toList_zipIdx]
        have hlen : (done ++ (zero.drop done.length).take (off - done.length) ++ x.cells).length = off + size := by simp; omega
        have hnew := GL_spl hg g1 (off := off) (by simp; omega)
        rw [spl_done done zero x.cells off hpos (by omega), hsz] at hnew
        obtain ⟨arr', k1, k2, k3, k4⟩ := fill_sound' hpl zero ps qs (done ++ (zero.drop done.length).take (off - done.length) ++ x.cells) (v.cells.zipIdx.foldl (fun cs (c, j) => cs.setIfInBounds (off + j) c) arr) (by
            rw [hz, hset]
            intro u hu
            simp only [List.mem_append] at hu
            rcases hu with (hu | hu) | hu
            · exact h1 u (List.mem_of_mem_take hu)
            · exact g2 u hu
            · exact h1 u (List.mem_of_mem_drop hu))
          (by rw [hlen]; omega) (by rw [hz, hset, hlen]; exact hnew) he hv (by rw [hlen]; exact hc)
        rw [hlen] at k3
        refine ⟨arr', ?_, k2, by simpa [List.append_assoc] using k3, ?_⟩
        · simp only [Instr.fill, hpl i _ hp]
          rw [if_neg (by simp [hsz']; omega)]
          exact k1
        · rw [k4, hz]
          have := congrArg List.length hset
          simp at this ⊢
          omega
theorem fill_sound {c : Cx} {pl pl' : Nat → Option (Nat × Nat)} (hpl : ∀ i p, pl i = some p → pl' i = some p) (ps : List (Nat × AV)) (qs : List (Nat × Value)) (cells : List AV) (arr : Array Value)
    (h1 : ∀ u ∈ arr.toList, u.oneCell' = true) (hg : GL cells c arr.toList) (he : ps.map (·.1) = qs.map (·.1)) (hv : GL (ps.map (·.2)) c (qs.map (·.2))) (hc : (fillP pl cells 0 ps).1) :
    ∃ arr', Instr.fill pl' arr qs = some arr' ∧ (∀ u ∈ arr'.toList, u.oneCell' = true) ∧ GL (fillP pl cells 0 ps).2 c arr'.toList ∧ arr'.size = arr.size := by
  have := fill_sound' hpl cells ps qs [] arr h1 (by simp) (by simpa using hg) he hv hc
  simpa using this
theorem ti_zero {P : Program} {t : TypeId} (h : (tiOf P t).zok = true) : ∃ i zv, P.info? t = some i ∧ i.zero = some zv ∧ zv.cells.size = i.size ∧ i.size = (tiOf P t).size ∧ i.bytes = (tiOf P t).bytes ∧ (tiOf P t).zero = zv.cells.toList.map ofC1 ∧ ∀ u ∈ zv.cells.toList, u.oneCell' = true := by
  unfold tiOf at *
  cases hi : P.info? t with
  | none => simp [hi] at h
  | some i =>
    simp only [hi] at h ⊢
    cases hz : i.zero with
    | none => simp [hz] at h
    | some zv =>
      simp only [hz, Bool.and_eq_true, List.all_eq_true, beq_iff_eq] at h
      exact ⟨i, zv, rfl, hz, h.2, rfl, rfl, by simp, h.1⟩
theorem run_zero {P : Program} {t : TypeId} {w : World} {i : TypeInfo} {zv : Value} (hi : P.info? t = some i) (hz : i.zero = some zv) : (zeroValue t).run P w = .ok zv w := by
  simp [zeroValue, typeInfo, hi, hz]
end Go.Lv
namespace Go.Lv
open Go
theorem mapM_places {P : Program} {w : World} : ∀ (fs : List Field), (∀ f ∈ fs, (tiOf P f.type).d ≠ .oth) →
    (List.mapM (m := Sem) (fun f => do pure (f.offset, ← sizeOf f.type)) fs).run P w = .ok (fs.map fun f => (f.offset, (tiOf P f.type).size)) w
  | [], _ => by simp
  | f :: fs, h => by
    have ih := mapM_places (P := P) (w := w) fs (fun g hg => h g (by simp [hg]))
    simp only [List.mapM_cons, Sem.run_bind, run_sizeOf (h f (by simp)), Result.andThen_ok, Sem.run_pure, ih, List.map_cons]
def placesOf (T : TypeId → TI) (fs : List (Nat × TypeId)) (i : Nat) : Option (Nat × Nat) := match fs[i]? with
  | some (off, ft) => some (off, (T ft).size)
  | none => none
def okFs (T : TypeId → TI) : List (Nat × TypeId) → Bool
  | [] => true
  | (_, t) :: r => (T t).d.ok && okFs T r
theorem okFs_iff (T : TypeId → TI) : ∀ fs, okFs T fs = true ↔ ∀ p ∈ fs, (T p.2).d.ok = true
  | [] => by simp [okFs]
  | (o, t) :: r => by simp [okFs, okFs_iff T r]
def rBld (T : TypeId → TI) (t : TypeId) (ps : List (Nat × AV)) : R := match (T t).d with
  | .st fs => (((T t).zok = true ∧ okFs T fs = true) ∧ (fillP (placesOf T fs) (T t).zero 0 ps).1, .agg (fillP (placesOf T fs) (T t).zero 0 ps).2)
  | .arr _ e => (((T t).zok = true ∧ (T e).d.ok = true) ∧ (fillP (fun i => some (i * (T e).size, (T e).size)) (T t).zero 0 ps).1, .agg (fillP (fun i => some (i * (T e).size, (T e).size)) (T t).zero 0 ps).2)
  | _ => (False, .junk)
theorem rBld_sound {P : Program} {t : TypeId} {ps : List (Nat × AV)} {qs : Array (Nat × Value)} {c : Cx} (he : ps.map (·.1) = qs.toList.map (·.1)) (hv : GL (ps.map (·.2)) c (qs.toList.map (·.2))) (h : (rBld (tiOf P) t ps).1) :
    ∃ u, (Instr.build t qs).run P c.w = .ok u c.w ∧ G (rBld (tiOf P) t ps).2 c u := by
  unfold rBld at h ⊢
  cases hd : (tiOf P t).d <;> simp only [hd] at h ⊢
  case arr n e =>
    obtain ⟨⟨hz, ho⟩, hf⟩ := h
    obtain ⟨i, zv, h1, h2, h3, h4, _, h5, h6⟩ := ti_zero hz
    rw [h5] at hf ⊢
    obtain ⟨arr', k1, k2, k3, _⟩ := fill_sound (c := c) (pl' := fun i => some (i * (tiOf P e).size, (tiOf P e).size)) (fun _ _ h => h) ps qs.toList _ zv.cells h6 (GL_ofC1 c _) he hv hf
    refine ⟨.agg arr', ?_, by simp only [G]; exact ⟨_, rfl, k2, k3⟩⟩
    simp only [Instr.build, Sem.run_bind, run_zero h1 h2, Result.andThen_ok, run_underlying (und_arr hd), run_sizeOf (ok_ne ho), k1, Sem.run_pure]
  case st fs =>
    obtain ⟨⟨hz, ho⟩, hf⟩ := h
    obtain ⟨fields, hu, hfs⟩ := und_st hd
    obtain ⟨i, zv, h1, h2, h3, h4, _, h5, h6⟩ := ti_zero hz
    rw [h5] at hf ⊢
    have hok : ∀ f ∈ fields.toList, (tiOf P f.type).d ≠ .oth := by
      intro f hf'
      rw [okFs_iff] at ho
      exact ok_ne (ho (f.offset, f.type) (by rw [← hfs]; exact List.mem_map.2 ⟨f, hf', rfl⟩))
    have hm := mapM_places (P := P) (w := c.w) fields.toList hok
    have hpl : ∀ i p, placesOf (tiOf P) fs i = some p → ((fields.toList.map fun f => (f.offset, (tiOf P f.type).size)).toArray[·]?) i = some p := by
      intro i p hp
      unfold placesOf at hp
      rw [← hfs, List.getElem?_map] at hp
      cases hq : fields.toList[i]? with
      | none => simp [hq] at hp
      | some f =>
        simp only [hq, Option.map_some, Option.some.injEq] at hp
        subst hp
        simp only [List.getElem?_toArray, List.getElem?_map, hq, Option.map_some]
    obtain ⟨arr', k1, k2, k3, _⟩ := fill_sound (c := c) hpl ps qs.toList _ zv.cells h6 (GL_ofC1 c _) he hv hf
    refine ⟨.agg arr', ?_, by simp only [G]; exact ⟨_, rfl, k2, k3⟩⟩
    simp only [Instr.build, Sem.run_bind, run_zero h1 h2, Result.andThen_ok, run_underlying hu]
    rw [Array.mapM_eq_mapM_toList, Sem.run_map, hm]
    simp only [Result.andThen_ok, k1, Sem.run_pure]
def rLen (T : TypeId → TI) (t : TypeId) (x : AV) : R := match (T t).d with
  | .sl _ => match x with
    | .sl _ _ n _ => (True, .i n)
    | .ros _ n _ => (True, .i n)
    | .nils => (True, .i 0)
    | _ => (False, .junk)
  | .arr n _ => (True, .i n)
  | .str => match x with
    | .s b => (True, .i b.size)
    | _ => (False, .junk)
  | _ => (False, .junk)
theorem rLen_sound {P : Program} {t ty : TypeId} {x : AV} {c : Cx} {v : Value} (hx : G x c v) (h : (rLen (tiOf P) t x).1) :
    ∃ u, (Builtin.len_ #[t] ty #[v]).run P c.w = .ok u c.w ∧ G (rLen (tiOf P) t x).2 c u := by
  unfold rLen at h ⊢
  cases hd : (tiOf P t).d <;> simp only [hd] at h ⊢
  case sl e =>
    have hu := und_sl hd
    cases x <;> simp only at h ⊢ <;> simp only [G] at hx ⊢
    case sl => rcases hx with ⟨_, rfl, rfl⟩ | ⟨_, _, _, _, _, _, _, _, _, _, _, rfl⟩ <;> exact ⟨_, by simp [Builtin.len_, run_underlying hu, goInt], rfl⟩
    case ros => rcases hx with ⟨rfl, _, _, rfl⟩ | ⟨_, _, _, rfl, _⟩ <;> exact ⟨_, by simp [Builtin.len_, run_underlying hu, goInt], rfl⟩
    case nils => subst hx; exact ⟨_, by simp [Builtin.len_, run_underlying hu, goInt], rfl⟩
  case arr n e =>
    have hu := und_arr hd
    exact ⟨.int .i64 n, by simp [Builtin.len_, run_underlying hu, goInt], by simp only [G]⟩
  case str =>
    have hu := und_str hd
    cases x <;> simp only at h ⊢ <;> simp only [G] at hx ⊢
    subst hx
    exact ⟨_, by simp [Builtin.len_, run_underlying hu, goInt], rfl⟩
def rMin (x y : AV) : R := match x, y with
  | .i a, .i b => (True, .i (if b < a then b else a))
  | _, _ => (False, .junk)
def rMax (x y : AV) : R := match x, y with
  | .i a, .i b => (True, .i (if a < b then b else a))
  | _, _ => (False, .junk)
def rSap (T : TypeId → TI) (t : TypeId) (x : AV) : R := match (T t).d with
  | .arr n _ => match x with
    | .ros fr m cs => (0 < n ∧ n ≤ m, .rop fr cs)
    | .sl id off m _ => (0 < n ∧ n ≤ m, .ptr id off)
    | _ => (False, .junk)
  | _ => (False, .junk)
theorem rSap_sound {P : Program} {t : TypeId} {x : AV} {c : Cx} {v : Value} (hx : G x c v) (h : (rSap (tiOf P) t x).1) :
    ∃ u, (Instr.arrayAt t v).run P c.w = .ok u c.w ∧ G (rSap (tiOf P) t x).2 c u := by
  unfold rSap at h ⊢
  cases hd : (tiOf P t).d <;> simp only [hd] at h ⊢
  rename_i n e
  have hu := und_arr hd
  cases x <;> simp only at h ⊢ <;> simp only [G] at hx ⊢
  case ros fr m cs =>
    rcases hx with ⟨rfl, _, _, rfl⟩ | ⟨b, o, cap, rfl, h1, h2, h3, h4⟩
    · omega
    · refine ⟨_, ?_, b, o, rfl, h2, h3, h4⟩
      simp only [Instr.arrayAt, Sem.run_bind, run_underlying hu, Result.andThen_ok]
      rw [Sem.run_ite, if_neg (by omega), Sem.run_pure]
  case sl id off m z =>
    rcases hx with ⟨_, rfl, _⟩ | ⟨b, o, cap, cells, T, fz, h1, h2, h3, h4, h5, rfl⟩
    · omega
    · have ho : o = off := by rcases h4 with h4 | h4 <;> omega
      subst ho
      refine ⟨_, ?_, b, h1, rfl⟩
      simp only [Instr.arrayAt, Sem.run_bind, run_underlying hu, Result.andThen_ok]
      rw [Sem.run_ite, if_neg (by omega), Sem.run_pure]
end Go.Lv
namespace Go.Lv
open Go
section
variable {E : Ent} {s : St} {ρ : Nat → Option (Option Nat)} {N : Nat → Prop} {a : Act} {w : World}
theorem ptr_new (E : Ent) (w : World) (N : Nat → Prop) (ρ : Nat → Option (Option Nat)) (k b : Nat) : G (.ptr k 0) (E.cx w N (ups ρ k (some b))) (.pointer (some ⟨b, 0, none⟩)) := by
  simp only [G]; exact ⟨b, by simp [Ent.cx, ups], rfl⟩
theorem xAl (r : Rel E s ρ N a w) {t : TypeId} (h : (tiOf E.P t).zok = true) :
    ∃ v w' ρ', (Instr.alloc t true (.tuple #[])).run E.P w = .ok v w' ∧ Rel E { s with H := (s.nx, ⟨(tiOf E.P t).zero, true⟩) :: s.H, nx := s.nx + 1 } ρ' N a w' ∧ G (.ptr s.nx 0) (E.cx w' N ρ') v := by
  obtain ⟨i, zv, h1, h2, h3, h4, _, h5, h6⟩ := ti_zero h
  refine ⟨_, _, _, ?_, r.alloc zv.cells t _ ⟨zv.cells.toList, by rw [h5]; exact GL_ofC1 _ _, h6, (List.take_length).symm⟩, ptr_new E _ N ρ s.nx w.heap.size⟩
  simp only [Instr.alloc, Sem.run_bind, run_zero h1 h2, Result.andThen_ok, newVar, newRow, run_newObj, World.alloc_eq, Sem.run_pure]
theorem xBx (r : Rel E s ρ N a w) {t : TypeId} {x : AV} {u : Value} (hx : G x (E.cx w N ρ) u) (h : x.cell = true) :
    ∃ v w' ρ', (Instr.box t u).run E.P w = .ok v w' ∧ Rel E { s with H := (s.nx, ⟨x.cells, true⟩) :: s.H, nx := s.nx + 1 } ρ' N a w' ∧ G (.ptr s.nx 0) (E.cx w' N ρ') v := by
  obtain ⟨g1, g2⟩ := G_cells hx h
  refine ⟨_, _, _, ?_, r.alloc u.cells t _ ⟨u.cells.toList, g1, g2, (List.take_length).symm⟩, ptr_new E _ N ρ s.nx w.heap.size⟩
  simp only [Instr.box, Sem.run_bind, newVar, newRow, run_newObj, World.alloc_eq, Result.andThen_ok, Sem.run_pure]
theorem sl_new (E : Ent) (w : World) (N : Nat → Prop) (ρ : Nat → Option (Option Nat)) (k n cap z : Nat) (cells : Array Value) (T : TypeId) (hn : n ≤ cap) (hz : cap * z ≤ cells.size) :
    G (.sl k 0 n z) (E.cx (w.alloc (.cells cells T)) N (ups ρ k (some w.heap.size))) (.slice (some ⟨w.heap.size, 0, none⟩) n cap) := by
  simp only [G]
  exact .inr ⟨w.heap.size, 0, cap, cells, T, (0, 0), by simp [Ent.cx, ups], heap_alloc_new w _, hn, .inl rfl, by omega, rfl⟩
def bslCells (T : TypeId → TI) (e : TypeId) (n : Nat) (ps : List (Nat × AV)) : Prop × List AV := fillP (fun i => some (i * (T e).size, (T e).size)) (List.replicate (n * (T e).size) .junk) 0 ps
theorem GL_junk (c : Cx) : ∀ (vs : List Value), GL (List.replicate vs.length .junk) c vs
  | [] => by simp [GL]
  | v :: vs => by simp only [List.length_cons, List.replicate_succ, GL]; exact ⟨v, vs, rfl, by simp [G], GL_junk c vs⟩
theorem bsl_run (P : Program) {w : World} {c : Cx} {t e : TypeId} {n : Nat} {ps : List (Nat × AV)} {qs : Array (Nat × Value)} (hd : (tiOf P t).d = .sl e) (he : ps.map (·.1) = qs.toList.map (·.1)) (hv : GL (ps.map (·.2)) c (qs.toList.map (·.2)))
    (hz : (tiOf P e).zok = true) (hoe : (tiOf P e).d.ok = true) (hp : 0 < (tiOf P e).size) (hn : n * (tiOf P e).size ≤ 16777216) (hf : (bslCells (tiOf P) e n ps).1) :
    ∃ arr : Array Value, (Instr.buildSlice t n qs).run P w = .ok (.slice (some ⟨w.heap.size, 0, none⟩) n n) (w.alloc (.cells arr e)) ∧ (∀ u ∈ arr.toList, u.oneCell' = true) ∧ GL (bslCells (tiOf P) e n ps).2 c arr.toList ∧ arr.size = n * (tiOf P e).size := by
  obtain ⟨i, zv, h1, h2, h3, h4, _, h5, h6⟩ := ti_zero hz
  have hbase : ∀ (za : Array Value), (∀ u ∈ za.toList, u.oneCell' = true) → (0 < n * (tiOf P e).size → 0 < za.size) →
      (∀ u ∈ ((Array.range (n * (tiOf P e).size)).map (za[· % za.size]!)).toList, u.oneCell' = true) := by
    intro za hza hpos u hu
    simp only [Array.toList_map, List.mem_map, Array.mem_toList_iff, Array.mem_range] at hu
    obtain ⟨j, hj, rfl⟩ := hu
    have : 0 < za.size := hpos (by omega)
    have hlt : j % za.size < za.size := Nat.mod_lt _ this
    rw [getElem!_pos za _ hlt]
    exact hza _ (Array.getElem_mem_toList hlt)
  have mk : ∀ (za : Array Value), (∀ u ∈ za.toList, u.oneCell' = true) → (0 < n * (tiOf P e).size → 0 < za.size) → ∃ arr : Array Value, Instr.fill (fun i => some (i * (tiOf P e).size, (tiOf P e).size)) ((Array.range (n * (tiOf P e).size)).map (za[· % za.size]!)) qs.toList = some arr ∧ (∀ u ∈ arr.toList, u.oneCell' = true) ∧ GL (bslCells (tiOf P) e n ps).2 c arr.toList ∧ arr.size = n * (tiOf P e).size := by
    intro za h1 h2
    have hj := GL_junk c ((Array.range (n * (tiOf P e).size)).map (za[· % za.size]!)).toList
    simp only [Array.length_toList, Array.size_map, Array.size_range] at hj
    obtain ⟨arr, q1, q2, q3, q4⟩ := fill_sound (fun _ _ h => h) ps qs.toList _ _ (hbase za h1 h2) hj he hv hf
    exact ⟨arr, q1, q2, q3, by rw [q4]; simp⟩
  have hle : ¬ (n * (tiOf P e).size > 2 ^ 24) := by omega
  have run : ∀ (za : Array Value), ((if n * (tiOf P e).size = 0 then pure #[] else do pure (← zeroValue e).cells : Sem (Array Value))).run P w = .ok za w → ∀ arr, Instr.fill (fun i => some (i * (tiOf P e).size, (tiOf P e).size)) ((Array.range (n * (tiOf P e).size)).map (za[· % za.size]!)) qs.toList = some arr →
      (Instr.buildSlice t n qs).run P w = .ok (.slice (some ⟨w.heap.size, 0, none⟩) n n) (w.alloc (.cells arr e)) := by
    intro za hza arr harr
    unfold Instr.buildSlice
    rw [Sem.run_bind, run_underlying (und_sl hd)]
    simp only [Result.andThen_ok]
    rw [Sem.run_bind, run_sizeOf (ok_ne hoe)]
    simp only [Result.andThen_ok]
    rw [if_neg hle]
    by_cases h0 : n * (tiOf P e).size = 0
    · rw [if_pos h0] at hza ⊢
      simp only [Sem.run_pure, Result.ok.injEq, and_true] at hza
      subst hza
      simp only [Sem.run_bind, Sem.run_pure, Result.andThen_ok, harr, newRow, run_newObj, World.alloc_eq]
    · rw [if_neg h0] at hza ⊢
      rw [Sem.run_bind, run_zero h1 h2] at hza ⊢
      simp only [Result.andThen_ok, Sem.run_pure, Result.ok.injEq, and_true] at hza
      subst hza
      simp only [Sem.run_bind, Sem.run_pure, Result.andThen_ok, harr, newRow, run_newObj, World.alloc_eq]
  by_cases h0 : n * (tiOf P e).size = 0
  · obtain ⟨arr, k1, k2, k3, k4⟩ := mk #[] (by simp) (by omega)
    exact ⟨arr, run #[] (by rw [if_pos h0]; rfl) arr k1, k2, k3, k4⟩
  · obtain ⟨arr, k1, k2, k3, k4⟩ := mk zv.cells h6 (by intro _; rw [h3, h4]; exact hp)
    exact ⟨arr, run zv.cells (by rw [if_neg h0, Sem.run_bind, run_zero h1 h2]; rfl) arr k1, k2, k3, k4⟩
theorem xBsl (r : Rel E s ρ N a w) {t e : TypeId} {n : Nat} {ps : List (Nat × AV)} {qs : Array (Nat × Value)} (hd : (tiOf E.P t).d = .sl e) (he : ps.map (·.1) = qs.toList.map (·.1)) (hv : GL (ps.map (·.2)) (E.cx w N ρ) (qs.toList.map (·.2)))
    (hz : (tiOf E.P e).zok = true) (hoe : (tiOf E.P e).d.ok = true) (hp : 0 < (tiOf E.P e).size) (hn : n * (tiOf E.P e).size ≤ 16777216) (hf : (bslCells (tiOf E.P) e n ps).1) :
    ∃ v w' ρ', (Instr.buildSlice t n qs).run E.P w = .ok v w' ∧ Rel E { s with H := (s.nx, ⟨(bslCells (tiOf E.P) e n ps).2, true⟩) :: s.H, nx := s.nx + 1 } ρ' N a w' ∧ G (.sl s.nx 0 n (tiOf E.P e).size) (E.cx w' N ρ') v := by
  obtain ⟨arr, k1, k2, k3, k4⟩ := bsl_run E.P (w := w) (c := E.cx w N ρ) hd he hv hz hoe hp hn hf
  exact ⟨_, _, _, k1, r.alloc arr e _ ⟨arr.toList, k3, k2, (List.take_length).symm⟩, sl_new E w N ρ s.nx n n _ arr e (Nat.le_refl _) (by omega)⟩
theorem xMsl (r : Rel E s ρ N a w) {t e : TypeId} (hd : (tiOf E.P t).d = .sl e) (hz : (tiOf E.P e).zok = true) (h1 : (tiOf E.P e).size = 1) {l c : Int} (kl kc : IntKind) (h0 : 0 ≤ l) (hlc : l ≤ c) (hb : ((tiOf E.P e).bytes : Int) * c ≤ 281474976710656) (hc : c ≤ 9223372036854775807) :
    ∃ v w' ρ', (Instr.makeSlice t (.int kl l) (.int kc c)).run E.P w = .ok v w' ∧ Rel E { s with H := (s.nx, ⟨List.replicate l.toNat ((tiOf E.P e).zero.getD 0 .junk), true⟩) :: s.H, nx := s.nx + 1 } ρ' N a w' ∧ G (.sl s.nx 0 l.toNat 1) (E.cx w' N ρ') v := by
  obtain ⟨i, zv, k1, k2, k3, k4, k5, k6, k7⟩ := ti_zero hz
  have hs : zv.cells.size = 1 := by omega
  have hm : madeCells zv.cells (c.toNat * i.size) = Array.replicate c.toNat zv.cells[0]! := by
    rw [k4, h1, Nat.mul_one]
    apply Array.ext'
    simp only [madeCells, hs, Nat.mod_one, Array.toList_map, Array.toList_replicate]
    apply List.ext_getElem?
    intro j
    simp only [List.getElem?_map, Array.getElem?_toList, List.getElem?_replicate]
    by_cases hj : j < c.toNat
    · simp [hj]
    · simp [hj]
  have hz0 : (tiOf E.P e).zero.getD 0 .junk = ofC1 zv.cells[0]! := by
    rw [k6]
    have : 0 < zv.cells.size := by omega
    simp [List.getD_eq_getElem?_getD, this]
  have hmake := run_make (P := E.P) w t e i zv (und_sl hd) k1 k2 kl kc l c h0 hlc (by rw [k5]; exact hb) hc
  rw [hm] at hmake
  have hone : zv.cells[0]!.oneCell' = true := by
    have h0' : 0 < zv.cells.size := by omega
    rw [getElem!_pos zv.cells 0 h0']
    exact k7 _ (Array.getElem_mem_toList h0')
  refine ⟨_, _, _, hmake, r.alloc (Array.replicate c.toNat zv.cells[0]!) e _ ⟨List.replicate l.toNat zv.cells[0]!, ?_, ?_, ?_⟩, sl_new E w N ρ s.nx l.toNat c.toNat 1 _ e (by omega) (by simp)⟩
  · rw [hz0]
    have := GL_ofC1 (E.cx w N ρ) (List.replicate l.toNat zv.cells[0]!)
    simpa using this
  · intro u hu; rw [List.mem_replicate] at hu; rw [hu.2]; exact hone
  · simp only [List.length_replicate, Array.toList_replicate, List.take_replicate]
    congr 1; omega
end
end Go.Lv
namespace Go.Lv
open Go
section
variable {E : Ent} {s : St} {ρ : Nat → Option (Option Nat)} {N : Nat → Prop} {a : Act} {w : World}
theorem Rel.lay (r : Rel E s ρ N a w) {id : Nat} {seg : Seg} (hs : lkf s.H id = some seg) {b : Nat} (hb : ρ id = some (some b)) {cur : Array Value} {T : TypeId} (hc : w.heap[b]? = some (Obj.cells cur T (0, 0)))
    {xs : List AV} {us : List Value} (hx : GL xs (E.cx w N ρ) us) (h1 : ∀ u ∈ us, u.oneCell' = true) {off : Nat} (hfit : off + xs.length ≤ seg.cells.length) :
    (storeCells ⟨b, off, none⟩ us).run E.P w = .ok () (w.setRow b (cur.toList.take off ++ us ++ cur.toList.drop (off + us.length)).toArray) ∧
    Rel E { s with H := (id, ⟨spl seg.cells off xs, seg.fr⟩) :: ers s.H id } ρ N a (w.setRow b (cur.toList.take off ++ us ++ cur.toList.drop (off + us.length)).toArray) := by
  have hl := GL_length hx
  have hgc : GC seg.cells (E.cx w N ρ) b 0 := by
    rcases r.hp id seg hs with ⟨k1, k2⟩ | ⟨b', c', T', k1, k2, k3⟩
    · rw [show ρ id = some none from k1] at hb; cases hb
    · rw [show ρ id = some (some b') from k1] at hb; cases hb; exact k3
  have hsz := seg_size (c := E.cx w N ρ) (show (E.cx w N ρ).w.heap[b]? = _ from hc) hgc
  refine ⟨by have := run_storeCells_at E.P b off T us 0 cur w hc (by simp; omega) h1; simpa using this, r.write hs hb hc ?_ _ ?_⟩
  · simp only [List.size_toArray, List.length_append, List.length_take, List.length_drop, Array.length_toList]; omega
  · intro j x hj
    rw [spl_eq _ _ _ hfit] at hj
    have e : ∀ j : Nat, (cur.toList.take off ++ us ++ cur.toList.drop (off + us.length)).toArray[j]? = if j < off then cur.toList[j]? else if j < off + us.length then us[j - off]? else cur.toList[j]? := by
      intro j; rw [List.getElem?_toArray]; exact getElem?_splice _ _ _ (by simp; omega) j
    rw [e]
    have old : ∀ x, seg.cells[j]? = some x → ∃ u, cur.toList[j]? = some u ∧ u.oneCell' = true ∧ G x (E.cx w N ρ) u := by
      intro x hx
      obtain ⟨u, q1, q2, q3⟩ := (GC_iff _).1 hgc j x hx
      refine ⟨u, ?_, q2, q3⟩
      have q1' : w.cell? ⟨b, 0 + j, none⟩ = some u := q1
      rw [cell?_of hc, Nat.zero_add] at q1'
      simpa using q1'
    by_cases h1' : j < off
    · rw [if_pos h1'] at hj ⊢; exact old x hj
    · rw [if_neg h1'] at hj ⊢
      by_cases h2 : j < off + xs.length
      · rw [if_pos h2] at hj; rw [if_pos (by omega)]
        have hlt : j - off < us.length := by omega
        exact ⟨_, List.getElem?_eq_getElem hlt, h1 _ (List.getElem_mem hlt), ((GL_iff _).1 hx).2 _ _ _ hj (List.getElem?_eq_getElem hlt)⟩
      · rw [if_neg h2] at hj; rw [if_neg (by omega)]; exact old x hj
def spc (cs : List AV) (off : Nat) (xs : List AV) : List AV := cs.take off ++ xs ++ cs.drop (off + xs.length)
def wr (cs : List AV) (off : Nat) (x : AV) : List AV := match x with
  | .agg xs => spc cs off xs
  | v => cs.set off v
theorem spl_spc (cs : List AV) (off : Nat) (xs : List AV) (h : off + xs.length ≤ cs.length) : spl cs off xs = spc cs off xs := by
  apply List.ext_getElem?
  intro j
  rw [spl_eq _ _ _ h]
  exact (getElem?_splice cs off xs (by omega) j).symm
theorem wr_eq {cs : List AV} {off : Nat} {x : AV} (h : off + x.cells.length ≤ cs.length) : spl cs off x.cells = wr cs off x := by
  cases x <;> first | rfl | exact spl_spc _ _ _ h
theorem xSt (r : Rel E s ρ N a w) {t : TypeId} {id off : Nat} {x : AV} {vp vx : Value} {seg : Seg} (hp : G (.ptr id off) (E.cx w N ρ) vp) (hx : G x (E.cx w N ρ) vx) (hs : lkf s.H id = some seg) (hok : (tiOf E.P t).d.ok = true) (hcell : x.cell = true)
    (hsz : x.cells.length = (tiOf E.P t).size) (hpos : 0 < (tiOf E.P t).size) (hfit : off + x.cells.length ≤ seg.cells.length) :
    ∃ w', (Instr.storeAt t vp vx).run E.P w = .ok () w' ∧ Rel E { s with H := (id, ⟨wr seg.cells off x, seg.fr⟩) :: ers s.H id } ρ N a w' := by
  rw [← wr_eq hfit]
  simp only [G] at hp
  obtain ⟨b, hb, rfl⟩ := hp
  obtain ⟨g1, g2⟩ := G_cells hx hcell
  have hl := GL_length g1
  rcases r.hp id seg hs with ⟨k1, k2⟩ | ⟨b', cur, T, k1, k2, k3⟩
  · rw [k2, List.length_nil] at hfit; omega
  · rw [k1] at hb; cases hb
    obtain ⟨q1, q2⟩ := r.lay hs k1 k2 g1 g2 hfit
    refine ⟨_, ?_, q2⟩
    simp only [Instr.storeAt, Sem.run_bind, Instr.sureAddr, Sem.run_pure, Result.andThen_ok, storeVar, run_sizeOf (ok_ne hok)]
    rw [if_neg (by rw [← hsz, hl]; simp)]
    exact q1
end
def srcC (H : List (Nat × Seg)) (z : Nat) (x : AV) : Prop × Nat × List AV := match x with
  | .nils => (True, 0, [])
  | .ros _ n cs => (cs.length = n * z, n, cs)
  | .sl id off n z' => match lkf H id with
    | some seg => (z' = z ∧ off + n * z ≤ seg.cells.length, n, (seg.cells.drop off).take (n * z))
    | none => (False, 0, [])
  | _ => (False, 0, [])
theorem src_sound {H : List (Nat × Seg)} {z : Nat} (hz : 0 < z) {x : AV} {c : Cx} {v : Value} (hH : HeapOK c H lkf) (hx : G x c v) (h : (srcC H z x).1) :
    ∃ (base : Option Addr) (cap : Nat) (us : List Value), v = .slice base (srcC H z x).2.1 cap ∧ us.length = (srcC H z x).2.1 * z ∧ GL (srcC H z x).2.2 c us ∧ (∀ u ∈ us, u.oneCell' = true) ∧
      ((us = [] ∧ (srcC H z x).2.1 = 0) ∨ ∃ b o, base = some ⟨b, o, none⟩ ∧ ∀ (j : Nat) (u : Value), us[j]? = some u → c.w.cell? ⟨b, o + j, none⟩ = some u) := by
  unfold srcC at h ⊢
  cases x <;> simp only at h ⊢
  case nils =>
    simp only [G] at hx
    exact ⟨none, 0, [], hx, by simp, by simp [GL], by simp, .inl ⟨rfl, trivial⟩⟩
  case ros fr n cs =>
    simp only [G] at hx
    rcases hx with ⟨h1, h2, base, rfl⟩ | ⟨b, o, cap, rfl, h1, h2, h3, h4⟩
    · subst h1 h2; exact ⟨base, 0, [], rfl, by simp, by simp [GL], by simp, .inl ⟨rfl, rfl⟩⟩
    · obtain ⟨us, q1, q2, q3, q4⟩ := GC_vals _ h4
      exact ⟨_, cap, us, rfl, by omega, GL_mono _ (ro_le c) q4, q3, .inr ⟨b, o, rfl, q2⟩⟩
  case sl id off n z' =>
    cases hs : lkf H id with
    | none => simp [hs] at h
    | some seg =>
      simp only [hs] at h ⊢
      simp only [G] at hx
      obtain ⟨rfl, hfit⟩ := h
      rcases hH id seg hs with ⟨k1, k2⟩ | ⟨b', cells', T', k1, k2, k3⟩
      · rcases hx with ⟨h1, h2, rfl⟩ | ⟨b, o, cap, cells, T, fz, h1, _⟩
        · subst h2; exact ⟨none, 0, [], rfl, by simp, by simp [GL], by simp, .inl ⟨rfl, rfl⟩⟩
        · rw [k1] at h1; cases h1
      · rcases hx with ⟨h1, h2, rfl⟩ | ⟨b, o, cap, cells, T, fz, h1, h2, h3, h4, h5, rfl⟩
        · rw [k1] at h1; cases h1
        · rw [k1] at h1; cases h1
          by_cases hn : n = 0
          · subst hn
            exact ⟨_, cap, [], rfl, by simp, by simp [GL], by simp, .inr ⟨_, o, rfl, by simp⟩⟩
          · have ho : o = off := by rcases h4 with h4 | h4 <;> omega
            subst ho
            have hd := GC_drop k3 o
            rw [Nat.zero_add] at hd
            obtain ⟨us, q1, q2, q3, q4⟩ := GC_vals _ (GC_take hd (n * z'))
            refine ⟨_, cap, us, rfl, ?_, q4, q3, .inr ⟨_, o, rfl, q2⟩⟩
            rw [q1, List.length_take, List.length_drop]; omega
theorem firstCells_run {P : Program} {w : World} {z n cap : Nat} {base : Option Addr} {us : List Value} (hl : us.length = n * z)
    (h : (us = [] ∧ n = 0) ∨ ∃ b o, base = some ⟨b, o, none⟩ ∧ ∀ (j : Nat) (u : Value), us[j]? = some u → w.cell? ⟨b, o + j, none⟩ = some u) :
    (Builtin.firstCells z n (.slice base n cap)).run P w = .ok us.toArray w := by
  rcases h with ⟨rfl, rfl⟩ | ⟨b, o, rfl, h⟩
  · cases base <;> simp [Builtin.firstCells, loadCells, loadCellsFrom]
  · simp only [Builtin.firstCells]; rw [← hl]; exact run_loadVals h
end Go.Lv
namespace Go.Lv
open Go
section
variable {P : Program} {w : World}
theorem app_room {t e ty : TypeId} {i : TypeInfo} (ht : P.underlying t = some (.slice e)) (hi : P.info? e = some i) (g sLen sCap : Nat) (cur : Array Value) (T : TypeId) (hg : w.heap[g]? = some (.cells cur T (0, 0)))
    {base : Option Addr} {m c : Nat} {news : List Value} (hl : news.length = m * i.size)
    (hsrc : (news = [] ∧ m = 0) ∨ ∃ b o, base = some ⟨b, o, none⟩ ∧ ∀ (j : Nat) (u : Value), news[j]? = some u → w.cell? ⟨b, o + j, none⟩ = some u) (h1 : ∀ u ∈ news, u.oneCell' = true)
    (hroom : sLen + m ≤ sCap) (hfit : sLen * i.size + news.length ≤ cur.size) :
    (Builtin.append_ #[t, t] ty #[.slice (some ⟨g, 0, none⟩) sLen sCap, .slice base m c]).run P w =
      .ok (.slice (some ⟨g, 0, none⟩) (sLen + m) sCap) (w.setRow g (cur.toList.take (sLen * i.size) ++ news ++ cur.toList.drop (sLen * i.size + news.length)).toArray) := by
  have hf := firstCells_run (P := P) (cap := c) hl hsrc
  have hst := run_storeCells_at P g (sLen * i.size) T news 0 cur w hg (by simpa using hfit) h1
  simp only [Nat.add_zero] at hst
  simp [Builtin.append_, run_underlying ht, sizeOf, typeInfo, hi, Builtin.lenOf, hroom, hf, addr_add, hst]
theorem app_grow {t e ty : TypeId} {i : TypeInfo} {z : Value} (ht : P.underlying t = some (.slice e)) (hi : P.info? e = some i) (hz : i.zero = some z)
    {b0 : Option Addr} {sLen sCap : Nat} {olds : List Value} (hlo : olds.length = sLen * i.size)
    (hold : (olds = [] ∧ sLen = 0) ∨ ∃ b o, b0 = some ⟨b, o, none⟩ ∧ ∀ (j : Nat) (u : Value), olds[j]? = some u → w.cell? ⟨b, o + j, none⟩ = some u)
    {base : Option Addr} {m c : Nat} {news : List Value} (hl : news.length = m * i.size)
    (hsrc : (news = [] ∧ m = 0) ∨ ∃ b o, base = some ⟨b, o, none⟩ ∧ ∀ (j : Nat) (u : Value), news[j]? = some u → w.cell? ⟨b, o + j, none⟩ = some u)
    (hg : sCap < sLen + m) (h63 : ((sLen + m : Nat) : Int) ≤ 9223372036854775807) (hfit : Builtin.nextslicecap (sLen + m) sCap * i.bytes ≤ 281474976710656) :
    (Builtin.append_ #[t, t] ty #[.slice b0 sLen sCap, .slice base m c]).run P w =
      .ok (.slice (some ⟨w.heap.size, 0, none⟩) (sLen + m) (grownCap w (sLen + m) sCap e))
        (w.drew.alloc (.cells (olds.toArray ++ news.toArray ++ Builtin.zeroCells z.cells (grownCap w (sLen + m) sCap e - (sLen + m))) e)) := by
  have hn : ¬ (sLen + m ≤ sCap) := by omega
  have h63' : ¬ (9223372036854775807 < ((sLen : Int) + (m : Int))) := by omega
  have h48' : ¬ (281474976710656 < Builtin.nextslicecap (sLen + m) sCap * i.bytes) := by omega
  have hf := firstCells_run (P := P) (w := w.drew) (cap := c) hl hsrc
  have hfo := firstCells_run (P := P) (w := w.drew) (cap := sCap) hlo hold
  simp [Builtin.append_, run_underlying ht, sizeOf, typeInfo, zeroValue, hi, hz, Builtin.lenOf, hn, h63', h48', Question.forced, hf, hfo, newRow, grownCap]
  congr 2
  apply Array.ext'
  simp [List.append_assoc]
theorem app_nothing {t e ty : TypeId} {i : TypeInfo} (ht : P.underlying t = some (.slice e)) (hi : P.info? e = some i) {base : Option Addr} {c : Nat}
    :
    (Builtin.append_ #[t, t] ty #[.slice none 0 0, .slice base 0 c]).run P w = .ok (.slice none 0 0) w := by
  cases base <;> simp [Builtin.append_, run_underlying ht, sizeOf, typeInfo, hi, Builtin.lenOf, Builtin.firstCells, loadCells, loadCellsFrom]
end
section
variable {E : Ent} {s : St} {ρ : Nat → Option (Option Nat)} {N : Nat → Prop} {a : Act} {w : World}
theorem sl_null (E : Ent) (w : World) (N : Nat → Prop) (ρ : Nat → Option (Option Nat)) (k z : Nat) : G (.sl k 0 0 z) (E.cx w N (ups ρ k none)) (.slice none 0 0) := by
  simp only [G]; exact .inl ⟨by simp [Ent.cx, ups], trivial, trivial⟩
def appB (H : List (Nat × Seg)) (z : Nat) (x : AV) : Prop × Nat × List AV × Bool := match x with
  | .nils => (True, 0, [], true)
  | .sl id off n z' => match lkf H id with
    | some seg => (off = 0 ∧ z' = z ∧ n * z = seg.cells.length, n, seg.cells, seg.fr)
    | none => (False, 0, [], true)
  | _ => (False, 0, [], true)
def appH (H : List (Nat × Seg)) (x : AV) : List (Nat × Seg) := match x with
  | .sl id _ _ _ => ers H id
  | _ => H
theorem Rel.drop (r : Rel E s ρ N a w) (id : Nat) : Rel E { s with H := ers s.H id } ρ N a w := by
  have get : ∀ k x, lkf (ers s.H id) k = some x → lkf s.H k = some x := by
    intro k x hk; rw [lkf_ers] at hk
    by_cases e : id = k
    · rw [if_pos e] at hk; cases hk
    · rwa [if_neg e] at hk
  have get' : ∀ k, lkf (ers s.H id) k ≠ none → lkf s.H k ≠ none := by
    intro k hk h; exact hk (by rw [lkf_ers, h]; simp)
  exact { r with hp := fun k x hk => r.hp k x (get k x hk), own := fun k x b hk hb => r.own k x b (get k x hk) hb, inj := fun i j b hi hj => r.inj i j b (get' i hi) (get' j hj) }
theorem Rel.appH (r : Rel E s ρ N a w) (x : AV) : Rel E { s with H := Lv.appH s.H x } ρ N a w := by
  unfold Lv.appH; split
  · exact r.drop _
  · exact r
theorem GL_app {c : Cx} : ∀ {xs ys : List AV} {us vs : List Value}, GL xs c us → GL ys c vs → GL (xs ++ ys) c (us ++ vs)
  | [], ys, us, vs, h, k => by simp only [GL] at h; subst h; simpa using k
  | x :: xs, ys, us, vs, h, k => by
    simp only [GL] at h
    obtain ⟨u, us', rfl, h1, h2⟩ := h
    simp only [List.cons_append, GL]
    exact ⟨u, us' ++ vs, rfl, h1, GL_app h2 k⟩
theorem Rel.same {H' : List (Nat × Seg)} (r : Rel E s ρ N a w) (h : ∀ k, lkf H' k = lkf s.H k) : Rel E { s with H := H' } ρ N a w :=
  { r with hp := fun k x hk => r.hp k x (by rw [← h]; exact hk), own := fun k x b hk hb => r.own k x b (by rw [← h]; exact hk) hb, inj := fun i j b hi hj => r.inj i j b (by rw [← h]; exact hi) (by rw [← h]; exact hj) }
theorem Rel.unfresh {k : Nat} {cs : List AV} {H' : List (Nat × Seg)} (r : Rel E { s with H := (k, ⟨cs, true⟩) :: H' } ρ N a w) : Rel E { s with H := (k, ⟨cs, false⟩) :: H' } ρ N a w := by
  have get : ∀ i x, lkf ((k, (⟨cs, false⟩ : Seg)) :: H') i = some x → ∃ y, lkf ((k, (⟨cs, true⟩ : Seg)) :: H') i = some y ∧ y.cells = x.cells ∧ (x.fr = true → y.fr = true) := by
    intro i x hx
    simp only [lkf] at hx ⊢
    cases hb : Nat.beq k i with
    | true => simp only [hb, cond_true, Option.some.injEq] at hx ⊢; subst hx; exact ⟨_, rfl, rfl, fun _ => rfl⟩
    | false => simp only [hb, cond_false] at hx ⊢; exact ⟨x, hx, rfl, id⟩
  refine { r with hp := fun i x hx => ?_, own := fun i x b hx hb => ?_, inj := fun i j b hi hj => ?_ }
  · obtain ⟨y, h1, h2, _⟩ := get i x hx
    have := r.hp i y h1
    rwa [h2] at this
  · obtain ⟨y, h1, _, h3⟩ := get i x hx
    obtain ⟨p, q, t⟩ := r.own i y b h1 hb
    exact ⟨p, q, fun e => t (h3 e)⟩
  · have nn : ∀ i, lkf ((k, (⟨cs, false⟩ : Seg)) :: H') i ≠ none → lkf ((k, (⟨cs, true⟩ : Seg)) :: H') i ≠ none := by
      intro i hi
      cases hx : lkf ((k, (⟨cs, false⟩ : Seg)) :: H') i with
      | none => exact absurd hx hi
      | some x => obtain ⟨y, h1, _⟩ := get i x hx; simp [h1]
    exact r.inj i j b (nn i hi) (nn j hj)
theorem app_nil (r : Rel E s ρ N a w) {t e ty : TypeId} (hd : (tiOf E.P t).d = .sl e) (hzk : (tiOf E.P e).zok = true) {base : Option Addr} {cap m : Nat} {news : List Value} {ys : List AV}
    (hl : news.length = m * (tiOf E.P e).size) (gn : GL ys (E.cx w N ρ) news) (on : ∀ u ∈ news, u.oneCell' = true)
    (hsrc : (news = [] ∧ m = 0) ∨ ∃ b o, base = some ⟨b, o, none⟩ ∧ ∀ (j : Nat) (u : Value), news[j]? = some u → w.cell? ⟨b, o + j, none⟩ = some u)
    (hb : m * (tiOf E.P e).bytes ≤ 140737488355328) (h63 : m ≤ 9223372036854775807) :
    ∃ v w' ρ', (Builtin.append_ #[t, t] ty #[.slice none 0 0, .slice base m cap]).run E.P w = .ok v w' ∧
      Rel E { s with H := (s.nx, ⟨ys, true⟩) :: s.H, nx := s.nx + 1 } ρ' N a w' ∧ G (.sl s.nx 0 m (tiOf E.P e).size) (E.cx w' N ρ') v := by
  obtain ⟨i, zv, k1, k2, k3, k4, k5, k6, k7⟩ := ti_zero hzk
  have hu := und_sl hd
  have zlen : ∀ k, (Builtin.zeroCells zv.cells k).size = k * (tiOf E.P e).size := fun k => by rw [size_zeroCells, k3, k4]
  by_cases hm : m = 0
  · subst hm
    have hnil : ys = [] := by
      have := GL_length gn
      rw [hl, Nat.zero_mul] at this
      exact List.eq_nil_of_length_eq_zero this
    rw [hnil]
    exact ⟨_, _, _, app_nothing hu k1, r.null, sl_null E w N ρ s.nx _⟩
  · have hr := app_grow (w := w) (ty := ty) (c := cap) hu k1 k2 (b0 := none) (sLen := 0) (sCap := 0) (olds := []) (by simp) (.inl ⟨rfl, rfl⟩) (by rw [k4]; exact hl) hsrc (by omega) (by omega) (growslice_fits (by omega) (by rw [k5, Nat.zero_add]; exact hb))
    simp only [Nat.zero_add] at hr
    have hge := grownCap_ge w m 0 e
    refine ⟨_, _, _, hr, r.drew.alloc _ e _ ⟨news, GL_mono _ (E.drew_le w N ρ) gn, on, ?_⟩, sl_new E w.drew N ρ s.nx _ _ _ _ e hge ?_⟩
    · simp
    · simp only [Array.empty_append, Array.size_append, List.size_toArray, zlen, hl, ← Nat.add_mul]
      exact Nat.mul_le_mul_right _ (by omega)
theorem xApp (r : Rel E s ρ N a w) {t e ty : TypeId} {x y : AV} {vx vy : Value} (hd : (tiOf E.P t).d = .sl e) (hzk : (tiOf E.P e).zok = true) (hpos : 0 < (tiOf E.P e).size) (hx : G x (E.cx w N ρ) vx) (hy : G y (E.cx w N ρ) vy)
    (h1 : (appB s.H (tiOf E.P e).size x).1) (h2 : (srcC s.H (tiOf E.P e).size y).1)
    (hb : ((appB s.H (tiOf E.P e).size x).2.1 + (srcC s.H (tiOf E.P e).size y).2.1) * (tiOf E.P e).bytes ≤ 140737488355328)
    (h63 : (appB s.H (tiOf E.P e).size x).2.1 + (srcC s.H (tiOf E.P e).size y).2.1 ≤ 9223372036854775807) :
    ∃ v w' ρ', (Builtin.append_ #[t, t] ty #[vx, vy]).run E.P w = .ok v w' ∧
      Rel E { s with H := (s.nx, ⟨(appB s.H (tiOf E.P e).size x).2.2.1 ++ (srcC s.H (tiOf E.P e).size y).2.2, (appB s.H (tiOf E.P e).size x).2.2.2⟩) :: Lv.appH s.H x, nx := s.nx + 1 } ρ' N a w' ∧
      G (.sl s.nx 0 ((appB s.H (tiOf E.P e).size x).2.1 + (srcC s.H (tiOf E.P e).size y).2.1) (tiOf E.P e).size) (E.cx w' N ρ') v := by
  obtain ⟨i, zv, k1, k2, k3, k4, k5, k6, k7⟩ := ti_zero hzk
  obtain ⟨base, cap, news, rfl, hl, gn, on, hsrc⟩ := src_sound hpos r.hp hy h2
  have hu := und_sl hd
  have zlen : ∀ k, (Builtin.zeroCells zv.cells k).size = k * (tiOf E.P e).size := fun k => by rw [size_zeroCells, k3, k4]
  generalize (srcC s.H (tiOf E.P e).size y).2.1 = m at *
  generalize (srcC s.H (tiOf E.P e).size y).2.2 = ys at *
  have hsrc' : (news = [] ∧ m = 0) ∨ ∃ b o, base = some ⟨b, o, none⟩ ∧ ∀ (j : Nat) (u : Value), news[j]? = some u → w.cell? ⟨b, o + j, none⟩ = some u := hsrc
  cases x <;> simp only [appB] at h1 hb h63 ⊢
  case nils =>
    simp only [G] at hx
    subst hx
    simp only [Lv.appH, Nat.zero_add, List.nil_append]
    exact app_nil r hd hzk hl gn on hsrc' (by simpa using hb) (by omega)
  case sl id off n z' =>
    cases hs : lkf s.H id with
    | none => simp [hs] at h1
    | some seg =>
      simp only [hs] at h1 hb h63 ⊢
      obtain ⟨rfl, rfl, hfull⟩ := h1
      simp only [G] at hx
      rcases r.hp id seg hs with ⟨q1, q2⟩ | ⟨b', cur, T', q1, q2, q3⟩
      · rcases hx with ⟨p1, p2, rfl⟩ | ⟨b, o, c0, cells, T, fz, p1, _⟩
        · subst p2
          rw [q2]
          simp only [Nat.zero_add, List.nil_append, Lv.appH]
          obtain ⟨v, w', ρ', m1, m2, m3⟩ := app_nil (s := { s with H := ers s.H id }) (ty := ty) (cap := cap) (r.drop id) hd hzk hl gn on hsrc' (by simpa using hb) (by omega)
          refine ⟨v, w', ρ', m1, ?_, m3⟩
          cases hf : seg.fr with
          | true => exact m2
          | false => exact Rel.unfresh (s := { s with nx := s.nx + 1 }) m2
        · rw [q1] at p1; cases p1
      · rcases hx with ⟨p1, p2, rfl⟩ | ⟨b, o, c0, cells, T, fz, p1, p2, p3, p4, p5, rfl⟩
        · rw [q1] at p1; cases p1
        · rw [q1] at p1; cases p1
          rw [q2] at p2; cases p2
          have q2' : w.heap[b']? = some (Obj.cells cur T' (0, 0)) := q2
          obtain ⟨hN, hM, hfr⟩ := r.own id seg b' hs q1
          have hc0 : c0 = 0 → n = 0 := fun h => by omega
          obtain ⟨olds, o1, o2, o3, o4⟩ := GC_vals _ q3
          have ho : olds.length = n * (tiOf E.P e).size := by omega
          have hsegsz : seg.cells.length ≤ cur.size := seg_size q2 q3
          by_cases hroom : n + m ≤ c0
          · by_cases hcz : c0 = 0
            · -- nothing is appended to an empty slice
              obtain rfl : n = 0 := by omega
              obtain rfl : m = 0 := by omega
              have hn : news = [] := List.eq_nil_of_length_eq_zero (by simpa using hl)
              have hys : ys = [] := List.eq_nil_of_length_eq_zero (by rw [GL_length gn, hn]; rfl)
              have hsc : seg.cells = [] := List.eq_nil_of_length_eq_zero (by simpa using hfull.symm)
              subst hn hys hcz
              rw [List.append_nil]
              refine ⟨.slice (some ⟨b', o, none⟩) 0 0, w, ups ρ s.nx (some b'), ?_, r.rename hs q1, ?_⟩
              · have hf := firstCells_run (P := E.P) (w := w) (cap := cap) (z := (tiOf E.P e).size) (n := 0) (us := []) (base := base) (by simp) (.inl ⟨rfl, rfl⟩)
                have : (Builtin.append_ #[t, t] ty #[.slice (some ⟨b', o, none⟩) 0 0, .slice base 0 cap]).run E.P w = .ok (.slice (some ⟨b', o, none⟩) 0 0) w := by
                  rw [← k4] at hf
                  simp [Builtin.append_, run_underlying hu, sizeOf, typeInfo, k1, Builtin.lenOf, hf, storeCells]
                exact this
              · simp only [G]
                exact .inr ⟨b', o, 0, cur, T', (0, 0), by simp [Ent.cx, ups], q2, Nat.le_refl _, .inr rfl, by omega, rfl⟩
            · have ho0 : o = 0 := by rcases p4 with h | h; exact h; exact absurd h hcz
              subst ho0
              have hfit : n * (tiOf E.P e).size + news.length ≤ cur.size := by
                rw [hl, ← Nat.add_mul]
                have := Nat.mul_le_mul_right (tiOf E.P e).size hroom
                omega
              have hr := app_room (w := w) (ty := ty) (c := cap) hu k1 b' n c0 cur T' q2 (by rw [k4]; exact hl) hsrc' on hroom (by rw [k4]; exact hfit)
              rw [k4] at hr
              have hcells : ∀ (j : Nat) (x : AV), (seg.cells ++ ys)[j]? = some x → ∃ u, (cur.toList.take (n * (tiOf E.P e).size) ++ news ++ cur.toList.drop (n * (tiOf E.P e).size + news.length)).toArray[j]? = some u ∧ u.oneCell' = true ∧ G x (E.cx w N ρ) u := by
                intro j x hj
                rw [List.getElem?_toArray, getElem?_splice _ _ _ (by simp; omega)]
                rw [List.getElem?_append] at hj
                by_cases hj1 : j < n * (tiOf E.P e).size
                · rw [if_pos (by omega)] at hj
                  rw [if_pos hj1]
                  obtain ⟨u, t1, t2, t3⟩ := (GC_iff _).1 q3 j x hj
                  have t1' : w.cell? ⟨b', 0 + j, none⟩ = some u := t1
                  rw [cell?_of q2', Nat.zero_add] at t1'
                  exact ⟨u, by simpa using t1', t2, t3⟩
                · rw [if_neg (by omega)] at hj
                  rw [if_neg hj1]
                  have hlt : j - seg.cells.length < ys.length := (List.getElem?_eq_some_iff.1 hj).1
                  have hgl := GL_length gn
                  have hlt' : j - n * (tiOf E.P e).size < news.length := by omega
                  rw [if_pos (by omega)]
                  refine ⟨_, List.getElem?_eq_getElem hlt', on _ (List.getElem_mem hlt'), ?_⟩
                  refine ((GL_iff _).1 gn).2 _ _ _ hj ?_
                  rw [← List.getElem?_eq_getElem hlt', hfull]
              have hw := r.write hs q1 q2' (cur' := (cur.toList.take (n * (tiOf E.P e).size) ++ news ++ cur.toList.drop (n * (tiOf E.P e).size + news.length)).toArray) (by simp; omega) (seg.cells ++ ys) hcells
              have hrn := hw.rename (id := id) (seg := ⟨seg.cells ++ ys, seg.fr⟩) (by simp [lkf]) q1
              refine ⟨_, _, ups ρ s.nx (some b'), hr, ?_, ?_⟩
              · refine hrn.same ?_
                intro k
                simp only [lkf, Lv.appH]
                cases hb : Nat.beq s.nx k with
                | true => rfl
                | false =>
                  simp only [cond_false]
                  rw [lkf_ers, lkf_ers]
                  by_cases e : id = k
                  · rw [if_pos e, if_pos e]
                  · rw [if_neg e, if_neg e, lkf_put, if_neg e]
              · simp only [G]
                refine .inr ⟨b', 0, c0, _, T', (0, 0), by simp [Ent.cx, ups], setRow_heap w b' cur _ T' (0, 0) q2', by omega, .inl rfl, ?_, rfl⟩
                simp; omega
          · have hbase : (olds = [] ∧ n = 0) ∨ ∃ b oo, some (⟨b', o, none⟩ : Addr) = some ⟨b, oo, none⟩ ∧ ∀ (j : Nat) (u : Value), olds[j]? = some u → w.cell? ⟨b, oo + j, none⟩ = some u := by
              refine .inr ⟨b', o, rfl, fun j u hj => ?_⟩
              have hlt := (List.getElem?_eq_some_iff.1 hj).1
              have hn0 : n ≠ 0 := by intro e; subst e; simp at ho; rw [ho] at hlt; simp at hlt
              have : o = 0 := by rcases p4 with h | h; exact h; omega
              subst this
              exact o2 j u hj
            have hr := app_grow (w := w) (ty := ty) (c := cap) (sLen := n) (sCap := c0) hu k1 k2 (by rw [k4]; exact ho) hbase (by rw [k4]; exact hl) hsrc' (by omega) (by omega) (growslice_fits (by omega) (by rw [k5]; exact hb))
            have hge := grownCap_ge w (n + m) c0 e
            have hal := (r.drop id).drew.alloc (s := { s with H := ers s.H id }) (olds.toArray ++ news.toArray ++ Builtin.zeroCells zv.cells (grownCap w (n + m) c0 e - (n + m))) e (seg.cells ++ ys) ⟨olds ++ news, ?_, ?_, ?_⟩
            · refine ⟨_, _, _, hr, ?_, sl_new E w.drew N ρ s.nx _ _ _ _ e hge ?_⟩
              · cases hf : seg.fr with
                | true => exact hal
                | false => exact Rel.unfresh (s := { s with nx := s.nx + 1 }) hal
              · simp only [Array.size_append, List.size_toArray, zlen, hl, ho, ← Nat.add_mul]
                exact Nat.mul_le_mul_right _ (by omega)
            · exact GL_app (GL_mono _ (E.drew_le w N ρ) o4) (GL_mono _ (E.drew_le w N ρ) gn)
            · intro u hu
              rcases List.mem_append.1 hu with hu | hu
              · exact o3 u hu
              · exact on u hu
            · rw [show (olds.toArray ++ news.toArray ++ Builtin.zeroCells zv.cells (grownCap w (n + m) c0 e - (n + m))).toList = (olds ++ news) ++ (Builtin.zeroCells zv.cells (grownCap w (n + m) c0 e - (n + m))).toList by simp, List.take_left]
end
end Go.Lv
namespace Go.Lv
open Go
section
variable {E : Ent} {s : St} {ρ : Nat → Option (Option Nat)} {N : Nat → Prop} {a : Act} {w : World}
theorem GL_take {c : Cx} {xs : List AV} {vs : List Value} (h : GL xs c vs) (k : Nat) : GL (xs.take k) c (vs.take k) := by
  have := GL_drop_take h 0 k
  simpa using this
theorem xCpy (r : Rel E s ρ N a w) {t u e ty : TypeId} {id off n z : Nat} {y : AV} {vx vy : Value} {seg : Seg} (hd : (tiOf E.P t).d = .sl e) (hok : (tiOf E.P e).d.ok = true) (hpos : 0 < (tiOf E.P e).size) (hz : z = (tiOf E.P e).size)
    (hx : G (.sl id off n z) (E.cx w N ρ) vx) (hy : G y (E.cx w N ρ) vy) (hs : lkf s.H id = some seg) (hfit : off + n * z ≤ seg.cells.length) (h2 : (srcC s.H z y).1) :
    ∃ v w', (Builtin.copy_ #[t, u] ty #[vx, vy]).run E.P w = .ok v w' ∧
      Rel E { s with H := (id, ⟨spc seg.cells off ((srcC s.H z y).2.2.take ((if (srcC s.H z y).2.1 ≤ n then (srcC s.H z y).2.1 else n) * z)), seg.fr⟩) :: ers s.H id } ρ N a w' ∧
      G (.i (if (srcC s.H z y).2.1 ≤ n then (srcC s.H z y).2.1 else n : Nat)) (E.cx w' N ρ) v := by
  subst hz
  obtain ⟨base, cap, news, rfl, hl, gn, on, hsrc⟩ := src_sound hpos r.hp hy h2
  have hu := und_sl hd
  generalize (srcC s.H (tiOf E.P e).size y).2.1 = m at *
  generalize (srcC s.H (tiOf E.P e).size y).2.2 = ys at *
  have hmin : Nat.min m n = if m ≤ n then m else n := rfl
  generalize hk : (if m ≤ n then m else n) = k at *
  have hkm : k ≤ m := by rw [← hk]; split <;> omega
  have hkn : k ≤ n := by rw [← hk]; split <;> omega
  have hgl := GL_length gn
  have hkl : k * (tiOf E.P e).size ≤ m * (tiOf E.P e).size := Nat.mul_le_mul_right _ hkm
  have hkl' : k * (tiOf E.P e).size ≤ n * (tiOf E.P e).size := Nat.mul_le_mul_right _ hkn
  have hfc : (Builtin.firstCells (tiOf E.P e).size k (.slice base m cap)).run E.P w = .ok (news.take (k * (tiOf E.P e).size)).toArray w := by
    rcases hsrc with ⟨h1, h2'⟩ | ⟨b, o, h1, h3⟩
    · have hk0 : k = 0 := by omega
      subst h1 hk0; cases base <;> simp [Builtin.firstCells, loadCells, loadCellsFrom]
    · subst h1
      have hl' : (news.take (k * (tiOf E.P e).size)).length = k * (tiOf E.P e).size := by rw [List.length_take]; omega
      simp only [Builtin.firstCells]
      have := run_loadVals (P := E.P) (w := w) (b := b) (o := o) (vs := news.take (k * (tiOf E.P e).size)) (fun j u hj => by
        rw [List.getElem?_take] at hj
        split at hj
        · exact h3 j u hj
        · cases hj)
      rwa [hl'] at this
  have g1 := GL_take gn (k * (tiOf E.P e).size)
  have o1 : ∀ u ∈ news.take (k * (tiOf E.P e).size), u.oneCell' = true := fun u hu => on u (List.mem_of_mem_take hu)
  have hlt : (ys.take (k * (tiOf E.P e).size)).length = k * (tiOf E.P e).size := by rw [List.length_take]; omega
  have run : ∀ (ba : Option Addr) (c0 : Nat) (w' : World), (∀ al, ba = some al → (storeCells al (news.take (k * (tiOf E.P e).size))).run E.P w = .ok () w') → (ba = none → w' = w) →
      (Builtin.copy_ #[t, u] ty #[.slice ba n c0, .slice base m cap]).run E.P w = .ok (goInt k) w' := by
    intro ba c0 w' h1 h2
    have hmin' : min m n = k := hmin
    cases ba with
    | none => rw [h2 rfl]; simp [Builtin.copy_, run_underlying hu, Builtin.lenOf, hmin', run_sizeOf (ok_ne hok), hfc]
    | some al => simp [Builtin.copy_, run_underlying hu, Builtin.lenOf, hmin', run_sizeOf (ok_ne hok), hfc, h1 al rfl]
  rw [← spl_spc _ _ _ (by rw [hlt]; omega)]
  simp only [G] at hx
  rcases r.hp id seg hs with ⟨q1, q2⟩ | ⟨b', cur, T', q1, q2, q3⟩
  · rcases hx with ⟨p1, p2, rfl⟩ | ⟨b, o, c0, cells, T, fz, p1, _⟩
    · subst p2
      obtain rfl : k = 0 := by omega
      refine ⟨_, w, run none 0 w (fun _ h => by cases h) (fun _ => rfl), ?_, by simp [G, goInt]⟩
      refine r.same ?_
      intro j
      rw [lkf_put]
      by_cases e : id = j
      · subst e; rw [if_pos rfl, hs, q2]; simp only [Nat.zero_mul, List.take_zero]
        cases seg with
        | mk cells fr => simp only at q2; subst q2; simp [spl]
      · rw [if_neg e]
    · rw [q1] at p1; cases p1
  · rcases hx with ⟨p1, p2, rfl⟩ | ⟨b, o, c0, cells, T, fz, p1, p2, p3, p4, p5, rfl⟩
    · rw [q1] at p1; cases p1
    · rw [q1] at p1; cases p1
      by_cases hn : k = 0
      · subst hn
        refine ⟨_, w, run (some ⟨b', o, none⟩) c0 w (fun al h => by cases h; simp [storeCells]) (fun h => by cases h), ?_, by simp [G, goInt]⟩
        refine r.same ?_
        intro j
        rw [lkf_put]
        by_cases e : id = j
        · subst e; rw [if_pos rfl, hs]; simp [spl]
        · rw [if_neg e]
      · have ho : o = off := by rcases p4 with h | h <;> omega
        subst ho
        obtain ⟨m1, m2⟩ := r.lay hs q1 q2 g1 o1 (off := o) (by rw [hlt]; omega)
        exact ⟨_, _, run (some ⟨b', o, none⟩) c0 _ (fun al h => by cases h; exact m1) (fun h => by cases h), m2, by simp [G, goInt]⟩
end
end Go.Lv
namespace Go.Lv
open Go
def evs (Gl : List (Nat × List AV)) (F : List (Nat × AV)) : List X → List AV
  | [] => []
  | x :: xs => evx Gl F x :: evs Gl F xs
def evp (Gl : List (Nat × List AV)) (F : List (Nat × AV)) : List (Nat × X) → List (Nat × AV)
  | [] => []
  | (i, x) :: xs => (i, evx Gl F x) :: evp Gl F xs
def evo (Gl : List (Nat × List AV)) (F : List (Nat × AV)) : Option X → Option AV
  | none => none
  | some x => some (evx Gl F x)
def qd : I → Option Nat
  | .mv d _ => some d
  | .pick d _ _ _ => some d
  | .bld d _ _ => some d
  | .ld d _ _ => some d
  | .nc d _ => some d
  | .bin d _ _ _ _ => some d
  | .un d _ _ => some d
  | .cv d _ _ _ => some d
  | .sap d _ _ => some d
  | .mki d _ _ => some d
  | .mkf d _ _ _ => some d
  | .slc d _ _ _ _ _ => some d
  | .fa d _ _ _ => some d
  | .fld d _ _ _ => some d
  | .ia d _ _ _ => some d
  | .ixv d _ _ _ => some d
  | .ext d _ _ => some d
  | .len d _ _ => some d
  | .min d _ _ => some d
  | .max d _ _ => some d
  | _ => none
def q (T : TypeId → TI) (Gl : List (Nat × List AV)) (H : List (Nat × Seg)) (F : List (Nat × AV)) : I → R
  | .mv _ x => (True, evx Gl F x)
  | .pick _ c x y => rPick (evx Gl F c) (evx Gl F x) (evx Gl F y)
  | .bld _ t ps => rBld T t (evp Gl F ps)
  | .ld _ t p => rLoad T H t (evx Gl F p)
  | .nc _ x => rNc (evx Gl F x)
  | .bin _ op t x y => rBin T op t (evx Gl F x) (evx Gl F y)
  | .un _ op x => rUn op (evx Gl F x)
  | .cv _ s t x => rCv T H s t (evx Gl F x)
  | .sap _ t x => rSap T t (evx Gl F x)
  | .mki _ t x => (match (T t).d with | .st _ => True | _ => False, .ifc t (evx Gl F x))
  | .mkf _ fn fs cs => (True, .fn fn (evs Gl F fs) (evs Gl F cs))
  | .slc _ t x lo hi mx => (fitH T H t (evx Gl F x) ∧ (rSlc T t (evx Gl F x) (evo Gl F lo) (evo Gl F hi) (evo Gl F mx)).1, (rSlc T t (evx Gl F x) (evo Gl F lo) (evo Gl F hi) (evo Gl F mx)).2)
  | .fa _ t x f => rFa T t (evx Gl F x) f
  | .fld _ t x f => rFld T t (evx Gl F x) f
  | .ia _ t x i => rIa T t (evx Gl F x) (evx Gl F i)
  | .ixv _ t x i => rIxv T t (evx Gl F x) (evx Gl F i)
  | .ext _ x n => rExt (evx Gl F x) n
  | .len _ t x => rLen T t (evx Gl F x)
  | .min _ x y => rMin (evx Gl F x) (evx Gl F y)
  | .max _ x y => rMax (evx Gl F x) (evx Gl F y)
  | _ => (False, .junk)
section
variable {E : Ent} {s : St} {ρ : Nat → Option (Option Nat)} {N : Nat → Prop} {a : Act} {w : World}
theorem evs_sound (r : Rel E s ρ N a w) : ∀ (xs : List Operand), GL (evs E.Gl s.F (xs.map cX)) (E.cx w N ρ) (xs.map a.eval)
  | [] => by simp [evs, GL]
  | x :: xs => by simp only [List.map_cons, evs, GL]; exact ⟨_, _, rfl, evx_sound r x, evs_sound r xs⟩
theorem evp_fst (Gl : List (Nat × List AV)) (F : List (Nat × AV)) (a : Act) : ∀ (ps : List (Nat × Operand)), (evp Gl F (ps.map fun p => (p.1, cX p.2))).map (·.1) = (ps.map fun p => (p.1, a.eval p.2)).map (·.1)
  | [] => rfl
  | p :: ps => by simp only [List.map_cons, evp, evp_fst Gl F a ps]
theorem evp_sound (r : Rel E s ρ N a w) : ∀ (ps : List (Nat × Operand)), GL ((evp E.Gl s.F (ps.map fun p => (p.1, cX p.2))).map (·.2)) (E.cx w N ρ) ((ps.map fun p => (p.1, a.eval p.2)).map (·.2))
  | [] => by simp [evp, GL]
  | p :: ps => by simp only [List.map_cons, evp, GL]; exact ⟨_, _, rfl, evx_sound r p.2, evp_sound r ps⟩
theorem evo_sound (r : Rel E s ρ N a w) (o : Option Operand) : (∀ y, evo E.Gl s.F (o.map cX) = some y → ∃ u, o.map a.eval = some u ∧ G y (E.cx w N ρ) u) ∧ (evo E.Gl s.F (o.map cX) = none → o.map a.eval = none) := by
  cases o with
  | none => exact ⟨fun y h => by simp [evo] at h, fun _ => rfl⟩
  | some x => exact ⟨fun y h => by simp [evo] at h; subst h; exact ⟨_, rfl, evx_sound r x⟩, fun h => by simp [evo] at h⟩
theorem nc_run {P : Program} {x : Operand} {ops : Oper} (ho : ops.op = .nilCheck x) {y : AV} {c : Cx} {ev : Operand → Value} {wd : World} (hx : G y c (ev x)) (h : (rNc y).1) : (execOp ev ops).run P wd = .ok (.value (ev x)) wd ∧ (rNc y).2 = y := by
  unfold rNc at h ⊢
  split at h
  · simp only [G] at hx; obtain ⟨b, _, e⟩ := hx; simp only [execOp, ho, e]; exact ⟨rfl, trivial⟩
  · simp only [G] at hx; obtain ⟨b, o, e, _⟩ := hx; simp only [execOp, ho, e]; exact ⟨rfl, trivial⟩
  · simp only [G] at hx; obtain ⟨vs, us, e, _⟩ := hx; simp only [execOp, ho, e]; exact ⟨rfl, trivial⟩
  · exact absurd h id
theorem value_run {P : Program} {wd : World} {sm : Sem Value} {u : Value} (h : sm.run P wd = .ok u wd) : ((do pure (Next.value (← sm))) : Sem Next).run P wd = .ok (.value u) wd := by
  rw [Sem.run_bind, h]; rfl
theorem q_sound (r : Rel E s ρ N a w) {o : Oper} {i : I} (hc : cOp o.dst o.op = some i) {d : Nat} (hd : qd i = some d) (h : (q (tiOf E.P) E.Gl s.H s.F i).1) :
    o.dst = some d ∧ ∃ u, (execOp a.eval o).run E.P w = .ok (.value u) w ∧ G (q (tiOf E.P) E.Gl s.H s.F i).2 (E.cx w N ρ) u := by
  obtain ⟨dst, op, type, pos, after, guard⟩ := o
  simp only at hc ⊢
  have hH : HeapOK (E.cx w N ρ) s.H lkf := r.hp
  cases op with
  | move x =>
    cases dst <;> simp only [cOp, Option.map_none, Option.map_some, reduceCtorEq, Option.some.injEq] at hc
    subst hc; simp only [qd, Option.some.injEq] at hd; subst hd
    exact ⟨by trivial, _, rfl, evx_sound r x⟩
  | assign x =>
    cases dst <;> simp only [cOp, Option.map_none, Option.map_some, reduceCtorEq, Option.some.injEq] at hc
    subst hc; simp only [qd, Option.some.injEq] at hd; subst hd
    exact ⟨by trivial, _, rfl, evx_sound r x⟩
  | pick c x y =>
    cases dst <;> simp only [cOp, Option.map_none, Option.map_some, reduceCtorEq, Option.some.injEq] at hc
    subst hc; simp only [qd, Option.some.injEq] at hd; subst hd
    simp only [q] at h ⊢
    have g1 := evx_sound r c
    generalize evx E.Gl s.F (cX c) = ac at g1 h ⊢
    cases ac <;> simp only [rPick] at h ⊢
    simp only [G] at g1
    refine ⟨by trivial, _, ?_, pickv_sound (evx_sound r x) (evx_sound r y)⟩
    simp only [execOp, g1, asBool, Sem.run_bind, Sem.run_pure, Result.andThen_ok]
  | build t ps =>
    cases dst <;> simp only [cOp, Option.map_none, Option.map_some, reduceCtorEq, Option.some.injEq] at hc
    subst hc; simp only [qd, Option.some.injEq] at hd; subst hd
    simp only [q] at h ⊢
    obtain ⟨u, k1, k2⟩ := rBld_sound (c := E.cx w N ρ) (qs := ps.map fun p => (p.1, a.eval p.2)) (by rw [Array.toList_map]; exact evp_fst _ _ a _) (by rw [Array.toList_map]; exact evp_sound r _) h
    exact ⟨by trivial, u, value_run k1, k2⟩
  | load t p =>
    cases dst <;> simp only [cOp, Option.map_none, Option.map_some, reduceCtorEq, Option.some.injEq] at hc
    subst hc; simp only [qd, Option.some.injEq] at hd; subst hd
    obtain ⟨u, k1, k2⟩ := rLoad_sound hH (evx_sound r p) h
    exact ⟨by trivial, u, value_run k1, k2⟩
  | nilCheck x =>
    cases dst <;> simp only [cOp, Option.map_none, Option.map_some, reduceCtorEq, Option.some.injEq] at hc
    subst hc; simp only [qd, Option.some.injEq] at hd; subst hd
    obtain ⟨k1, k2⟩ := nc_run (P := E.P) (wd := w) (ops := ⟨_, .nilCheck x, type, pos, after, guard⟩) rfl (evx_sound r x) h
    refine ⟨by trivial, _, k1, ?_⟩
    simp only [q]; rw [k2]; exact evx_sound r x
  | binOp op t x y u =>
    cases dst <;> simp only [cOp, Option.map_none, Option.map_some, reduceCtorEq, Option.some.injEq] at hc
    subst hc; simp only [qd, Option.some.injEq] at hd; subst hd
    obtain ⟨u, k1, k2⟩ := rBin_sound (evx_sound r x) (evx_sound r y) h x y
    exact ⟨by trivial, u, value_run k1, k2⟩
  | unOp op t x =>
    cases dst <;> simp only [cOp, Option.map_none, Option.map_some, reduceCtorEq, Option.some.injEq] at hc
    subst hc; simp only [qd, Option.some.injEq] at hd; subst hd
    obtain ⟨u, k1, k2⟩ := rUn_sound (P := E.P) (evx_sound r x) h
    exact ⟨by trivial, u, value_run k1, k2⟩
  | convert s' t x =>
    cases dst <;> simp only [cOp, Option.map_none, Option.map_some, reduceCtorEq, Option.some.injEq] at hc
    subst hc; simp only [qd, Option.some.injEq] at hd; subst hd
    obtain ⟨u, k1, k2⟩ := rCv_sound hH (evx_sound r x) h
    exact ⟨by trivial, u, value_run k1, k2⟩
  | sliceToArrayPointer t x =>
    cases dst <;> simp only [cOp, Option.map_none, Option.map_some, reduceCtorEq, Option.some.injEq] at hc
    subst hc; simp only [qd, Option.some.injEq] at hd; subst hd
    obtain ⟨u, k1, k2⟩ := rSap_sound (evx_sound r x) h
    exact ⟨by trivial, u, value_run k1, k2⟩
  | makeInterface t x =>
    cases dst <;> simp only [cOp, Option.map_none, Option.map_some, reduceCtorEq, Option.some.injEq] at hc
    subst hc; simp only [qd, Option.some.injEq] at hd; subst hd
    simp only [q] at h ⊢
    cases ht : (tiOf E.P t).d <;> simp only [ht] at h
    obtain ⟨fs, hu, _⟩ := und_st ht
    refine ⟨by trivial, _, value_run (u := .iface t (a.eval x)) ?_, ?_⟩
    · simp [Instr.makeInterface, run_underlying hu]
    · simp only [G]; exact ⟨_, rfl, evx_sound r x⟩
  | makeFunc fn fs cs =>
    cases dst <;> simp only [cOp, Option.map_none, Option.map_some, reduceCtorEq, Option.some.injEq] at hc
    subst hc; simp only [qd, Option.some.injEq] at hd; subst hd
    refine ⟨by trivial, _, value_run (u := .func fn (fs.map a.eval) (cs.map a.eval)) rfl, ?_⟩
    simp only [q, G]
    exact ⟨_, _, rfl, by rw [Array.toList_map]; exact evs_sound r _, by rw [Array.toList_map]; exact evs_sound r _⟩
  | slice t x lo hi mx =>
    cases dst <;> simp only [cOp, Option.map_none, Option.map_some, reduceCtorEq, Option.some.injEq] at hc
    subst hc; simp only [qd, Option.some.injEq] at hd; subst hd
    simp only [q] at h ⊢
    obtain ⟨u, k1, k2⟩ := rSlcH_sound hH (evx_sound r x) (evo_sound r lo).1 (evo_sound r lo).2 (evo_sound r hi).1 (evo_sound r hi).2 (evo_sound r mx).1 (evo_sound r mx).2 h.1 h.2
    exact ⟨by trivial, u, value_run k1, k2⟩
  | fieldAddr t x f =>
    cases dst <;> simp only [cOp, Option.map_none, Option.map_some, reduceCtorEq, Option.some.injEq] at hc
    subst hc; simp only [qd, Option.some.injEq] at hd; subst hd
    obtain ⟨u, k1, k2⟩ := rFa_sound (evx_sound r x) h
    exact ⟨by trivial, u, value_run k1, k2⟩
  | field t x f =>
    cases dst <;> simp only [cOp, Option.map_none, Option.map_some, reduceCtorEq, Option.some.injEq] at hc
    subst hc; simp only [qd, Option.some.injEq] at hd; subst hd
    obtain ⟨u, k1, k2⟩ := rFld_sound (evx_sound r x) h
    exact ⟨by trivial, u, value_run k1, k2⟩
  | indexAddr t x i' =>
    cases dst <;> simp only [cOp, Option.map_none, Option.map_some, reduceCtorEq, Option.some.injEq] at hc
    subst hc; simp only [qd, Option.some.injEq] at hd; subst hd
    obtain ⟨u, k1, k2⟩ := rIa_sound (evx_sound r x) (evx_sound r i') h
    exact ⟨by trivial, u, value_run k1, k2⟩
  | index t x i' =>
    cases dst <;> simp only [cOp, Option.map_none, Option.map_some, reduceCtorEq, Option.some.injEq] at hc
    subst hc; simp only [qd, Option.some.injEq] at hd; subst hd
    obtain ⟨u, k1, k2⟩ := rIxv_sound (evx_sound r x) (evx_sound r i') h
    exact ⟨by trivial, u, value_run k1, k2⟩
  | extract x n =>
    cases dst <;> simp only [cOp, Option.map_none, Option.map_some, reduceCtorEq, Option.some.injEq] at hc
    subst hc; simp only [qd, Option.some.injEq] at hd; subst hd
    obtain ⟨u, k1, k2⟩ := rExt_sound (P := E.P) (evx_sound r x) h
    exact ⟨by trivial, u, value_run k1, k2⟩
  | call c =>
    obtain ⟨callee, args, tys⟩ := c
    cases dst with
    | none => exfalso; obtain ⟨t, x, rfl, _⟩ := clzO_is (by simpa only [cOp] using hc); simp [qd] at hd
    | some d' =>
      simp only [cOp, Option.bind_some] at hc
      cases callee with
      | value f => simp only [Option.some.injEq] at hc; subst hc; simp [qd] at hd
      | invoke r m => simp only [Option.some.injEq] at hc; subst hc; simp [qd] at hd
      | builtin b =>
        simp only at hc
        unfold cBlt at hc
        split at hc <;> simp only [Option.some.injEq, reduceCtorEq] at hc <;> subst hc <;> simp only [qd, Option.some.injEq, reduceCtorEq] at hd <;> subst hd
        · rename_i x t ha ht
          obtain rfl : args = #[x] := Array.toList_inj.1 (by simpa using ha)
          obtain rfl : tys = #[t] := Array.toList_inj.1 (by simpa using ht)
          obtain ⟨u, k1, k2⟩ := rLen_sound (ty := type) (evx_sound r x) h
          refine ⟨rfl, u, ?_, k2⟩
          simp only [execOp, resolve, Sem.run_bind, Sem.run_pure, Result.andThen_ok, invoke, builtin, List.map_toArray, List.map_cons, List.map_nil]
          have k1' : (Builtin.len_ #[t] type #[a.eval x]).run E.P w = .ok u w := k1
          rw [k1']; rfl
        · rename_i x y ha
          obtain rfl : args = #[x, y] := Array.toList_inj.1 (by simpa using ha)
          simp only [q] at h ⊢
          have g1 := evx_sound r x
          have g2 := evx_sound r y
          generalize evx E.Gl s.F (cX x) = ax at g1 h ⊢
          generalize evx E.Gl s.F (cX y) = ay at g2 h ⊢
          cases ax <;> cases ay <;> simp only [rMin] at h ⊢ <;> try exact absurd h id
          simp only [G] at g1 g2
          refine ⟨by trivial, _, ?_, rfl⟩
          simp [execOp, resolve, invoke, builtin, Builtin.min_, Builtin.min2, g1, g2]
        · rename_i x y ha
          obtain rfl : args = #[x, y] := Array.toList_inj.1 (by simpa using ha)
          simp only [q] at h ⊢
          have g1 := evx_sound r x
          have g2 := evx_sound r y
          generalize evx E.Gl s.F (cX x) = ax at g1 h ⊢
          generalize evx E.Gl s.F (cX y) = ay at g2 h ⊢
          cases ax <;> cases ay <;> simp only [rMax] at h ⊢ <;> try exact absurd h id
          simp only [G] at g1 g2
          refine ⟨by trivial, _, ?_, rfl⟩
          simp [execOp, resolve, invoke, builtin, Builtin.max_, Builtin.max2, g1, g2]
  | _ => cases dst <;> simp [cOp] at hc <;> subst hc <;> simp [qd] at hd
end
end Go.Lv
namespace Go.Lv
open Go
inductive C where
  | o (i : I)
  | y (i : I)
  | dr (ok : Bool) (m : Nat) (ops : List I)
  | ite (x : X) (a b : List C)
  | blk (id : Nat) (b : List C)
  | lp (b : List C)
  | rf (f : X) (ps : List Nat) (as b : List C)
  | ex (id : Nat)
  | ret
  | bad
def cOps (ops : Array Oper) : List Oper → Option (List I)
  | [] => some []
  | o :: r => match cI ops o, cOps ops r with
    | some i, some l => some (i :: l)
    | _, _ => none
def slX : X → List Nat
  | .t n => [n]
  | _ => []
def slO : Option X → List Nat
  | some x => slX x
  | none => []
def slI : I → List Nat
  | .mv _ x => slX x
  | .pick _ c x y => slX c ++ slX x ++ slX y
  | .al _ _ => []
  | .bx _ _ x => slX x
  | .bld _ _ ps => ps.flatMap fun p => slX p.2
  | .bsl _ _ _ ps => ps.flatMap fun p => slX p.2
  | .ld _ _ p => slX p
  | .st _ p x => slX p ++ slX x
  | .nc _ x => slX x
  | .bin _ _ _ x y => slX x ++ slX y
  | .un _ _ x => slX x
  | .cv _ _ _ x => slX x
  | .sap _ _ x => slX x
  | .mki _ _ x => slX x
  | .mkf _ _ fs cs => fs.flatMap slX ++ cs.flatMap slX
  | .msl _ _ l c => slX l ++ slX c
  | .slc _ _ x lo hi mx => slX x ++ slO lo ++ slO hi ++ slO mx
  | .fa _ _ x _ => slX x
  | .fld _ _ x _ => slX x
  | .ia _ _ x i => slX x ++ slX i
  | .ixv _ _ x i => slX x ++ slX i
  | .ext _ x _ => slX x
  | .call _ f as => slX f ++ as.flatMap slX
  | .inv _ r _ as => slX r ++ as.flatMap slX
  | .len _ _ x => slX x
  | .app _ _ _ s x => slX s ++ slX x
  | .cpy _ _ _ s x => slX s ++ slX x
  | .clr _ _ x => slX x
  | .clz _ x => slX x
  | .min _ x y => slX x ++ slX y
  | .max _ x y => slX x ++ slX y
  | .gd g _ i => g :: slI i
def dI : I → Option Nat
  | .mv d _ => some d
  | .pick d _ _ _ => some d
  | .al d _ => some d
  | .bx d _ _ => some d
  | .bld d _ _ => some d
  | .bsl d _ _ _ => some d
  | .ld d _ _ => some d
  | .st _ _ _ => none
  | .clz _ _ => none
  | .nc d _ => some d
  | .bin d _ _ _ _ => some d
  | .un d _ _ => some d
  | .cv d _ _ _ => some d
  | .sap d _ _ => some d
  | .mki d _ _ => some d
  | .mkf d _ _ _ => some d
  | .msl d _ _ _ => some d
  | .slc d _ _ _ _ _ => some d
  | .fa d _ _ _ => some d
  | .fld d _ _ _ => some d
  | .ia d _ _ _ => some d
  | .ixv d _ _ _ => some d
  | .ext d _ _ => some d
  | .call d _ _ => some d
  | .inv d _ _ _ => some d
  | .len d _ _ => some d
  | .app d _ _ _ _ => some d
  | .cpy d _ _ _ _ => some d
  | .clr d _ _ => some d
  | .min d _ _ => some d
  | .max d _ _ => some d
  | .gd _ _ i => dI i
def isE : I → Bool
  | .al _ _ => true
  | .bx _ _ _ => true
  | .bsl _ _ _ _ => true
  | .msl _ _ _ _ => true
  | .st _ _ _ => true
  | .app _ _ _ _ _ => true
  | .cpy _ _ _ _ _ => true
  | .clr _ _ _ => true
  | .clz _ _ => true
  | .gd _ _ i => isE i
  | _ => false
def isB : I → Bool
  | .bsl _ _ _ _ => true
  | _ => false
def bsO (o : Oper) : List Nat := o.after.toList.filterMap fun e => if Region.binds .any e then some e.on else none
def nubN : List Nat → List Nat → List Nat
  | [], acc => acc
  | x :: xs, acc => nubN xs (if acc.contains x then acc else x :: acc)
def ancs (bs : List (List Nat)) : List (List Nat) :=
  bs.foldl (fun acc l => acc ++ [nubN (l ++ l.flatMap fun b => acc.getD b []) []]) []
def splitAt (bs an : List (List Nat)) (n : Nat) : Nat → Nat
  | 0 => 0
  | k + 1 => if (k + 1 == n || (bs.getD (k + 1) []).contains k) && (List.range k).all (fun x => (an.getD k []).contains x) then splitAt bs an n k else k + 1
def drawOK (wk : Bool) (bs an : List (List Nat)) (m : Nat) (l : List I) : Bool :=
  let n := l.length
  (bs.length == n && m ≤ n) &&
  (List.range n).all (fun j => (bs.getD j []).all (fun b => decide (b < j)) && (an.getD j []).all (fun x => (bs.getD j []).any fun b => b == x || (an.getD b []).contains x)) &&
  (m == n || (List.range m).all (fun k => (an.getD m []).contains k)) &&
  (List.range n).all (fun i => !(decide (m < i)) || (bs.getD i []).contains (i - 1)) &&
  (List.range m).all (fun j => (List.range m).all fun i =>
    (match dI (l.getD i (.mv 0 (.f 0))) with
     | some d => ((!(slI (l.getD j (.mv 0 (.f 0)))).contains d) || (an.getD j []).contains i) && (i == j || !(dI (l.getD j (.mv 0 (.f 0))) == some d))
     | none => true) &&
    (!(decide (i < j)) || !(isE (l.getD i (.mv 0 (.f 0)))) || !(isE (l.getD j (.mv 0 (.f 0)))) || (an.getD j []).contains i || (wk && isB (l.getD i (.mv 0 (.f 0))) && isB (l.getD j (.mv 0 (.f 0))))))
mutual
/-- no range over a function, -/
def nrf1 : C → Bool
  | .ite _ A B => nrf A && nrf B
  | .blk _ b => nrf b
  | .lp b => nrf b
  | .rf _ _ _ _ => false
  | _ => true
def nrf : List C → Bool
  | [] => true
  | c :: r => nrf1 c && nrf r
end
def isDy : I → Bool
  | .call _ (.t _) _ => true
  | .gd _ _ i => isDy i
  | _ => false
def toC (i : I) : C := match isDy i with
  | true => .y i
  | false => .o i
def rdy : Code → Bool
  | .seq a b => rdy a && rdy b
  | .cond _ a b => rdy a && rdy b
  | .block _ b => rdy b
  | .loop b => rdy b
  | .rangeFunc _ _ _ _ => false
  | .scope _ => false
  | _ => true
def cc : Code → List C
  | .skip => []
  | .region _ ops false => match cOps ops ops.toList with
    | some l => l.map toC
    | none => [.bad]
  | .region _ ops true => match cOps ops ops.toList with
    | some l => let bs := ops.toList.map bsO; let an := ancs bs; let m := splitAt bs an ops.size ops.size; [if drawOK true bs an m l then .dr (drawOK false bs an m l) m l else .bad]
    | none => [.bad]
  | .seq a b => cc a ++ cc b
  | .cond x a b => [.ite (cX x) (cc a) (cc b)]
  | .block id b => [.blk id (cc b)]
  | .loop b => [.lp (cc b)]
  | .rangeFunc f ps a b => if rdy a && rdy b then [.rf (cX f) ps.toList (cc a) (cc b)] else [.bad]
  | .exit id => [.ex id]
  | .ret => [.ret]
  | .scope b => if nrf (cc b) then cc b else [.bad]
  | .label _ => []
  | _ => [.bad]
def opW (P : Program) (i : I) (next : Act → World → Prop) (Q : Exit → Act → World → Prop) (a : Act) (w : World) : Prop :=
  ∀ (ops : Array Oper) (o : Oper), cI ops o = some i →
    if Region.wanted o (yielded ops a.tmps) then o.wp P a w next Q else next (a.put o.dst undef) w
def Rnd (P : Program) (o : Oper) (a : Act) (w : World) (next : Act → World → Prop) : Prop :=
  ∃ l f tmps assign body w', (execOp a.eval o).run P w = .ok (.round l f tmps assign body) w' ∧ RoundIn Fence.wide 0 P l f tmps assign body w' fun e w'' => ∃ v, e = .returned v ∧ next (a.put o.dst v) w''
def ryW (P : Program) (i : I) (next : Act → World → Prop) (a : Act) (w : World) : Prop :=
  ∀ (ops : Array Oper) (o : Oper), cI ops o = some i → Region.wanted o (yielded ops a.tmps) = true ∧ Rnd P o a w next
theorem ryW_mono {P : Program} {i : I} {n n' : Act → World → Prop} (h : ∀ a w, n a w → n' a w) {a : Act} {w : World} (hh : ryW P i n a w) : ryW P i n' a w := by
  intro ops o ho
  obtain ⟨h1, l, f, tmps, assign, body, w', h2, h3⟩ := hh ops o ho
  exact ⟨h1, l, f, tmps, assign, body, w', h2, RoundIn.mono h3 fun e w'' ⟨v, e1, e2⟩ => ⟨v, e1, h _ _ e2⟩⟩
def wpOq (P : Program) (ops : Array Oper) (Q : Exit → Act → World → Prop) (i : Nat) (K : Act → World → Prop) (a : Act) (w : World) : Prop :=
  match ops[i]? with
  | none => K a w
  | some o => if Region.wanted o (yielded ops a.tmps) then o.wp P a w K Q ∨ Rnd P o a w K else K (a.put o.dst undef) w
theorem wpOq_mono {P : Program} {ops : Array Oper} {Q : Exit → Act → World → Prop} {i : Nat} {a : Act} {w : World} {K K' : Act → World → Prop} (h : ∀ a w, K a w → K' a w) (hh : wpOq P ops Q i K a w) : wpOq P ops Q i K' a w := by
  unfold wpOq at *
  split
  · exact h _ _ (by simpa [*] using hh)
  · rename_i o ho
    simp only [ho] at hh
    split
    · rename_i hw; simp only [hw, if_true] at hh
      refine hh.imp (Oper.wp_mono h) ?_
      rintro ⟨l, f, tmps, asg, bd, w', h1, h2⟩
      exact ⟨l, f, tmps, asg, bd, w', h1, RoundIn.mono h2 fun e w'' ⟨v, e1, e2⟩ => ⟨v, e1, h _ _ e2⟩⟩
    · rename_i hw; simp only [hw] at hh; exact h _ _ hh
def wpAnq (P : Program) (md : Region.Mode) (ops : Array Oper) (Q : Exit → Act → World → Prop) : Nat → Array Bool → Act → World → Prop
  | 0, listed, a, w => Region.ready md ops listed = [] ∧ Q .normal a w
  | fuel + 1, listed, a, w =>
    (Region.ready md ops listed = [] → Q .normal a w) ∧
    ∀ i ∈ Region.ready md ops listed, wpOq P ops Q i (wpAnq P md ops Q fuel (listed.setIfInBounds i true)) a w
theorem wpAnq_done {P : Program} {md : Region.Mode} {ops : Array Oper} {Q : Exit → Act → World → Prop} {listed : Array Bool} {a : Act} {w : World} (hr : Region.ready md ops listed = []) (h : Q .normal a w) : ∀ fuel, wpAnq P md ops Q fuel listed a w
  | 0 => ⟨hr, h⟩
  | _ + 1 => ⟨fun _ => h, by rw [hr]; simp⟩
mutual
def cw1 (P : Program) : C → (Exit → Act → World → Prop) → Act → World → Prop
  | .o i, Q, a, w => opW P i (Q .normal) Q a w
  | .y i, Q, a, w => opW P i (Q .normal) Q a w ∨ ryW P i (Q .normal) a w
  | .dr ok m l, Q, a, w => ∀ (ops : Array Oper) (an : List (List Nat)), cOps ops ops.toList = some l → drawOK true (ops.toList.map bsO) an m l = true → (ok = true → drawOK false (ops.toList.map bsO) an m l = true) → wpAnq P .any ops Q ops.size (Array.replicate ops.size false) a w.drew
  | .ite x A B, Q, a, w => ∀ x' : Operand, cX x' = x → ∃ t, a.eval x' = .bool t ∧ (t = true → cwp P A Q a w) ∧ (t = false → cwp P B Q a w)
  | .blk id b, Q, a, w => cwp P b (Exit.inBlock id Q) a w
  | .lp b, Q, a, w => ∃ (J : Act → World → Prop) (μ : Act → World → Nat), J a w ∧ ∀ a w, J a w → cwp P b (Exit.then (fun a' w' => J a' w' ∧ μ a' w' < μ a w) Q) a w
  | .rf f ps A B, Q, a, w => ∀ (f' : Operand) (A' B' : Code), cX f' = f → cc A' = A → cc B' = B → rdy A' = true → rdy B' = true → (Code.rangeFunc f' ps.toArray A' B').wp P Q a w
  | .ex id, Q, a, w => Q (.exit id) a w
  | .ret, Q, a, w => Q .ret a w
  | .bad, _, _, _ => False
def cwp (P : Program) : List C → (Exit → Act → World → Prop) → Act → World → Prop
  | [], Q, a, w => Q .normal a w
  | c :: r, Q, a, w => cw1 P c (Exit.then (fun a w => cwp P r Q a w) Q) a w
end
theorem Exit.then_then (n m : Act → World → Prop) (Q : Exit → Act → World → Prop) : Exit.then n (Exit.then m Q) = Exit.then n Q := by
  funext e a w; cases e <;> rfl
theorem Oper.wp_Q {P : Program} {o : Oper} {a : Act} {w : World} {n : Act → World → Prop} {Q Q' : Exit → Act → World → Prop} (hp : ∀ c a w, Q (.panic c) a w → Q' (.panic c) a w) (hg : ∀ a w, Q .outgrown a w → Q' .outgrown a w)
    (h : o.wp P a w n Q) : o.wp P a w n Q' := by
  unfold Go.Oper.wp at *
  generalize (execOp a.eval o).run P w = r at *
  cases r with
  | ok nx w' =>
    cases nx <;> simp only [Oper.upon] at h ⊢ <;> try exact h
    case enter f args =>
      refine Calls.mono h fun e w'' he => ?_
      cases e with
      | returned v => exact he
      | panicked c => exact hp _ _ _ he
      | outgrown => obtain ⟨a0, w0, h0⟩ := he; exact ⟨a0, w0, hg _ _ h0⟩
  | halt x w' =>
    cases x <;> simp only [Oper.upon] at h ⊢ <;> first | exact h | exact hp _ _ _ h
theorem cwp_append (P : Program) : ∀ (l1 l2 : List C) (Q : Exit → Act → World → Prop) (a : Act) (w : World), cwp P (l1 ++ l2) Q a w ↔ cwp P l1 (Exit.then (fun a w => cwp P l2 Q a w) Q) a w
  | [], l2, Q, a, w => by simp [cwp, Exit.then]
  | c :: r, l2, Q, a, w => by
    simp only [List.cons_append, cwp]
    have e : (Exit.then (fun a w => cwp P (r ++ l2) Q a w) Q) = Exit.then (fun a w => cwp P r (Exit.then (fun a w => cwp P l2 Q a w) Q) a w) (Exit.then (fun a w => cwp P l2 Q a w) Q) := by
      rw [Exit.then_then]
      funext e a w
      cases e <;> simp only [Exit.then]
      exact propext (cwp_append P r l2 Q a w)
    rw [e]
def wideAt (ro : Option Nat) : Fence := { Fence.wide with round := ro }
theorem Calls.wide {P : Program} {f : FuncId} {args : Array Value} {w : World} {R : Ending → World → Prop} (ro : Option Nat) (n : Nat) (h : Calls P f args w R) : CallsIn (wideAt ro) n P f args w R := (callsIn_wide (n := n)).2 h
theorem Oper.wp_wpIn {P : Program} {o : Oper} {a : Act} {w : World} {K : Act → World → Prop} {Q : Exit → Act → World → Prop} (ro : Option Nat) (n : Nat) (hd : ∀ c, o.op ≠ .defer c) (h : o.wp P a w K Q) : o.wpIn (wideAt ro) n P a w K Q := by
  refine ⟨fun _ _ => trivial, ?_⟩
  rw [Oper.semAt_eq _ _ _ hd]
  unfold Go.Oper.wp at h
  generalize (execOp a.eval o).run P w = r at *
  cases r with
  | ok nx w' =>
    cases nx <;> simp only [Oper.upon, Oper.uponIn] at h ⊢ <;> try exact h
    case enter f args => exact ⟨fun h => by simp [wideAt, Fence.wide] at h, Calls.wide ro (n - 1) h⟩
    case row r args =>
      refine ⟨fun h => by simp [wideAt, Fence.wide] at h, fun c cs _ => ?_⟩
      obtain ⟨v, w'', h1, h2⟩ := h c cs
      exact ⟨v, w'', h1, (stepsIn_wide (P := P)).2 h2⟩
  | halt x w' => cases x <;> simp only [Oper.upon, Oper.uponIn] at h ⊢ <;> exact h
theorem Rnd_wpIn {P : Program} {o : Oper} {a : Act} {w : World} {K : Act → World → Prop} {Q : Exit → Act → World → Prop} (ro : Option Nat) (n : Nat) (hd : ∀ c, o.op ≠ .defer c) (h : Rnd P o a w K) : o.wpIn (wideAt ro) n P a w K Q := by
  refine ⟨fun _ _ => trivial, ?_⟩
  rw [Oper.semAt_eq _ _ _ hd]
  obtain ⟨l, f, tmps, assign, body, w', h1, h2⟩ := h
  rw [h1]
  simp only [Oper.uponIn]
  refine ⟨fun h => by simp [wideAt, Fence.wide] at h, trivial, fun c cs _ => ?_⟩
  obtain ⟨e, w'', ⟨v, rfl, h3⟩, h4⟩ := h2.2 c cs (fun d hd => by simp [Fence.wide] at hd)
  exact ⟨.returned v, w'', h3, h4⟩
theorem cOp_nd {d : Option Tmp} {op : Op} {i : I} (h : cOp d op = some i) : ∀ c, op ≠ .defer c := by
  rintro c rfl
  simp [cOp] at h
theorem cI_nd {ops : Array Oper} {o : Oper} {i : I} (h : cI ops o = some i) : ∀ c, o.op ≠ .defer c := by
  unfold cI at h
  split at h
  · exact cOp_nd h
  · split at h
    · rename_i hi; exact cOp_nd hi
    · cases h
theorem ops_sound {P : Program} {ops : Array Oper} {Q : Exit → Act → World → Prop} (ro : Option Nat) (n : Nat) : ∀ (rest : List Oper) (k : Nat) (l : List I), (∀ j, rest[j]? = ops[k + j]?) → cOps ops rest = some l → ∀ (a : Act) (w : World), cwp P (l.map toC) Q a w → wpOpsIn (wideAt ro) n P ops Q (List.range' k rest.length) a w
  | [], k, l, _, hc, a, w, h => by
    simp only [cOps, Option.some.injEq] at hc; subst hc
    simpa [cwp, wpOpsIn, List.range'] using h
  | o :: rest, k, l, hk, hc, a, w, h => by
    have h0 : ops[k]? = some o := by simpa using (hk 0).symm
    simp only [cOps] at hc
    cases hi : cI ops o with
    | none => simp [hi] at hc
    | some i =>
      cases hr : cOps ops rest with
      | none => simp [hi, hr] at hc
      | some l' =>
        simp only [hi, hr, Option.some.injEq] at hc
        subst hc
        have h1 : opW P i (fun a w => cwp P (l'.map toC) Q a w) (Exit.then (fun a w => cwp P (l'.map toC) Q a w) Q) a w ∨ ryW P i (fun a w => cwp P (l'.map toC) Q a w) a w := by
          simp only [List.map_cons, cwp, toC] at h
          split at h
          · simp only [cw1, Exit.then] at h; exact h
          · simp only [cw1, Exit.then] at h; exact .inl h
        have ih := ops_sound (P := P) (Q := Q) ro n rest (k + 1) l' (fun j => by have := hk (j + 1); simpa [Nat.add_assoc, Nat.add_comm 1 j] using this) hr
        simp only [List.length_cons, List.range'_succ, wpOpsIn, h0]
        rcases h1 with h | h
        · have h' := h ops o hi
          split
          · rename_i hw
            simp only [hw, if_true] at h'
            refine Oper.wpIn_mono (fun a w => ih a w) (Oper.wp_wpIn ro n (cI_nd hi) (Oper.wp_Q ?_ ?_ h'))
            · intro c a w h; exact h
            · intro a w h; exact h
          · rename_i hw
            simp only [hw] at h'
            exact ⟨fun _ _ => trivial, ih _ _ h'⟩
        · obtain ⟨hw, h'⟩ := h ops o hi
          rw [if_pos hw]
          exact Oper.wpIn_mono (fun a w => ih a w) (Rnd_wpIn ro n (cI_nd hi) h')
theorem wpAny_in {P : Program} {md : Region.Mode} {ops : Array Oper} {Q : Exit → Act → World → Prop} (ro : Option Nat) (n : Nat) (hnd : ∀ (i : Nat) (o : Oper), ops[i]? = some o → ∀ c, o.op ≠ .defer c) : ∀ (fuel : Nat) (listed : Array Bool) (a : Act) (w : World), wpAnq P md ops Q fuel listed a w → wpAnyIn (wideAt ro) n P md ops Q fuel listed a w
  | 0, _, _, _, hh => hh
  | fuel + 1, listed, a, w, hh => by
    refine ⟨hh.1, fun i hi => ?_⟩
    have := wpOq_mono (fun a w => wpAny_in ro n hnd fuel (listed.setIfInBounds i true) a w) (hh.2 i hi)
    unfold wpOq at this
    unfold wpOpIn
    split
    · rename_i hn; simpa [hn] using this
    · rename_i o ho
      simp only [ho] at this
      split
      · rename_i hw
        rw [if_pos hw] at this
        rcases this with h1 | h1
        · exact Oper.wp_wpIn ro n (hnd i o ho) h1
        · exact Rnd_wpIn ro n (hnd i o ho) h1
      · rename_i hw; rw [if_neg hw] at this; exact ⟨fun _ _ => trivial, this⟩
theorem cOps_nd {ops : Array Oper} : ∀ {rest : List Oper} {l : List I}, cOps ops rest = some l → ∀ o ∈ rest, ∀ c, o.op ≠ .defer c
  | [], l, _, o, ho => by cases ho
  | o :: rest, l, hc, o', ho => by
    simp only [cOps] at hc
    cases hi : cI ops o with
    | none => simp [hi] at hc
    | some i =>
      cases hr : cOps ops rest with
      | none => simp [hi, hr] at hc
      | some l' =>
        rcases List.mem_cons.1 ho with rfl | h
        · exact cI_nd hi
        · exact cOps_nd hr o' h
def ngE : Exit → Bool
  | .goto _ => false
  | _ => true
theorem wpAny_ng {P : Program} {md : Region.Mode} {ops : Array Oper} {Q Q' : Exit → Act → World → Prop} (h : ∀ e a w, ngE e = true → Q e a w → Q' e a w) : ∀ (fuel : Nat) (listed : Array Bool) (a : Act) (w : World), wpAnq P md ops Q fuel listed a w → wpAnq P md ops Q' fuel listed a w
  | 0, _, _, _, hh => ⟨hh.1, h _ _ _ rfl hh.2⟩
  | fuel + 1, listed, a, w, hh => by
    refine ⟨fun h0 => h _ _ _ rfl (hh.1 h0), fun i hi => ?_⟩
    have := wpOq_mono (fun a w => wpAny_ng h fuel (listed.setIfInBounds i true) a w) (hh.2 i hi)
    unfold wpOq at this ⊢
    split
    · rename_i hn; simpa [hn] using this
    · rename_i o ho
      simp only [ho] at this
      split
      · rename_i hw
        rw [if_pos hw] at this
        rcases this with h1 | h1
        · exact .inl (Oper.wp_Q (fun c a w => h _ a w rfl) (fun a w => h _ a w rfl) h1)
        · exact .inr h1
      · rename_i hw; rw [if_neg hw] at this; exact this
theorem then_ng {n n' : Act → World → Prop} {Q Q' : Exit → Act → World → Prop} (hn : ∀ a w, n a w → n' a w) (h : ∀ e a w, ngE e = true → Q e a w → Q' e a w) : ∀ e a w, ngE e = true → Exit.then n Q e a w → Exit.then n' Q' e a w := by
  intro e a w he; cases e <;> simp only [Exit.then] <;> first | exact hn a w | exact h _ a w he
theorem inBlock_ng {id : Nat} {Q Q' : Exit → Act → World → Prop} (h : ∀ e a w, ngE e = true → Q e a w → Q' e a w) : ∀ e a w, ngE e = true → Exit.inBlock id Q e a w → Exit.inBlock id Q' e a w := by
  intro e a w he; cases e <;> simp only [Exit.inBlock] <;> first | exact h _ a w he | (split <;> exact h _ a w rfl)
mutual
theorem cw1_ng {P : Program} : ∀ (c : C) {Q Q' : Exit → Act → World → Prop}, nrf1 c = true → (∀ e a w, ngE e = true → Q e a w → Q' e a w) → ∀ a w, cw1 P c Q a w → cw1 P c Q' a w
  | .o i, Q, Q', _, h, a, w, hh => by
    simp only [cw1] at hh ⊢
    intro ops o ho
    have := hh ops o ho
    split
    · rename_i hw; rw [if_pos hw] at this; exact Oper.wp_mono (fun a w => h _ a w rfl) (Oper.wp_Q (fun c a w => h _ a w rfl) (fun a w => h _ a w rfl) this)
    · rename_i hw; rw [if_neg hw] at this; exact h _ _ _ rfl this
  | .y i, Q, Q', _, h, a, w, hh => by
    simp only [cw1] at hh ⊢
    refine hh.imp (fun hh => ?_) fun hh => ryW_mono (fun a w => h _ a w rfl) hh
    intro ops o ho
    have := hh ops o ho
    split
    · rename_i hw; rw [if_pos hw] at this; exact Oper.wp_mono (fun a w => h _ a w rfl) (Oper.wp_Q (fun c a w => h _ a w rfl) (fun a w => h _ a w rfl) this)
    · rename_i hw; rw [if_neg hw] at this; exact h _ _ _ rfl this
  | .dr ok m l, Q, Q', _, h, a, w, hh => by
    simp only [cw1] at hh ⊢
    exact fun ops an h1 h2 h3 => wpAny_ng h _ _ _ _ (hh ops an h1 h2 h3)
  | .ite x A B, Q, Q', hn, h, a, w, hh => by
    simp only [nrf1, Bool.and_eq_true] at hn
    simp only [cw1] at hh ⊢
    intro x' hx
    obtain ⟨t, h1, h2, h3⟩ := hh x' hx
    exact ⟨t, h1, fun e => cwp_ng A hn.1 h a w (h2 e), fun e => cwp_ng B hn.2 h a w (h3 e)⟩
  | .blk id b, Q, Q', hn, h, a, w, hh => by
    simp only [nrf1] at hn
    simp only [cw1] at hh ⊢
    exact cwp_ng b hn (inBlock_ng h) a w hh
  | .lp b, Q, Q', hn, h, a, w, hh => by
    simp only [nrf1] at hn
    simp only [cw1] at hh ⊢
    obtain ⟨J, μ, h1, h2⟩ := hh
    exact ⟨J, μ, h1, fun a w hJ => cwp_ng b hn (then_ng (fun _ _ h => h) h) a w (h2 a w hJ)⟩
  | .rf f ps A B, Q, Q', hn, h, a, w, hh => by simp [nrf1] at hn
  | .ex id, Q, Q', _, h, a, w, hh => by simp only [cw1] at hh ⊢; exact h _ _ _ rfl hh
  | .ret, Q, Q', _, h, a, w, hh => by simp only [cw1] at hh ⊢; exact h _ _ _ rfl hh
  | .bad, Q, Q', _, h, a, w, hh => by simp only [cw1] at hh
theorem cwp_ng {P : Program} : ∀ (l : List C) {Q Q' : Exit → Act → World → Prop}, nrf l = true → (∀ e a w, ngE e = true → Q e a w → Q' e a w) → ∀ a w, cwp P l Q a w → cwp P l Q' a w
  | [], Q, Q', _, h, a, w, hh => by simp only [cwp] at hh ⊢; exact h _ _ _ rfl hh
  | c :: r, Q, Q', hn, h, a, w, hh => by
    simp only [nrf, Bool.and_eq_true] at hn
    simp only [cwp] at hh ⊢
    exact cw1_ng c hn.1 (then_ng (fun a w => cwp_ng r hn.2 h a w) h) a w hh
end
theorem then_no {K : Act → World → Prop} {Q : Exit → Act → World → Prop} (hq : ∀ a w, ¬ Q .outgrown a w) : ∀ a w, ¬ Exit.then K Q .outgrown a w := hq
theorem then_id (Q : Exit → Act → World → Prop) : Exit.then (fun a w => Q .normal a w) Q = Q := by funext e a w; cases e <;> rfl
theorem cwp_soundIn {P : Program} (hm : P.follows .mixedOrders = true) (ro : Option Nat) (n : Nat) : ∀ (code : Code) (Q : Exit → Act → World → Prop) (a : Act) (w : World), (ro = none ∨ rdy code = true) → (∀ a w, ¬ Q .outgrown a w) → cwp P (cc code) Q a w → code.wpIn (wideAt ro) n P Q a w
  | .skip, Q, a, w, _, _, h => wpIn_skip (by simpa [cc, cwp] using h)
  | .region id ops draw, Q, a, w, _, hq, h => by
    cases draw with
    | false =>
      simp only [cc] at h
      cases hc : cOps ops ops.toList with
      | none => simp [hc, cwp, cw1] at h
      | some l =>
        simp only [hc] at h
        refine wpIn_region ?_
        have := ops_sound (P := P) (Q := Q) ro n ops.toList 0 l (fun j => by simp) hc a w h
        simpa [List.range_eq_range'] using this
    | true =>
      simp only [cc] at h
      cases hc : cOps ops ops.toList with
      | none => simp [hc, cwp, cw1] at h
      | some l =>
        simp only [hc] at h
        split at h
        · rename_i hw
          simp only [cwp, cw1, then_id] at h
          exact wpIn_region_any hm (wpAny_in ro n (fun i o ho => cOps_nd hc o (by rw [← Array.getElem?_toList] at ho; exact List.mem_of_getElem? ho)) _ _ _ _ (h ops _ hc hw fun q => q))
        · simp [cwp, cw1] at h
  | .seq x y, Q, a, w, hr, hq, h => by
    simp only [cc] at h
    rw [cwp_append] at h
    have hx : ro = none ∨ rdy x = true := hr.imp (fun h => h) fun h => by simp only [rdy, Bool.and_eq_true] at h; exact h.1
    have hy : ro = none ∨ rdy y = true := hr.imp (fun h => h) fun h => by simp only [rdy, Bool.and_eq_true] at h; exact h.2
    refine wpIn_seq (wpIn_mono (cwp_soundIn hm ro n x _ a w hx (then_no hq) h) ?_)
    intro e a w he
    cases e <;> first | exact he | exact cwp_soundIn hm ro n y Q a w hy hq he
  | .cond x A B, Q, a, w, hr, hq, h => by
    simp only [cc, cwp, cw1, then_id] at h
    have hx : ro = none ∨ rdy A = true := hr.imp (fun h => h) fun h => by simp only [rdy, Bool.and_eq_true] at h; exact h.1
    have hy : ro = none ∨ rdy B = true := hr.imp (fun h => h) fun h => by simp only [rdy, Bool.and_eq_true] at h; exact h.2
    obtain ⟨t, h1, h2, h3⟩ := h x rfl
    exact wpIn_cond_split h1 (fun ht => cwp_soundIn hm ro n A Q a w hx hq (h2 ht)) (fun ht => cwp_soundIn hm ro n B Q a w hy hq (h3 ht))
  | .block id b, Q, a, w, hr, hq, h => by
    simp only [cc, cwp, cw1, then_id] at h
    exact wpIn_block (cwp_soundIn hm ro n b _ a w (hr.imp (fun h => h) fun h => by simpa only [rdy] using h) hq h)
  | .loop b, Q, a, w, hr, hq, h => by
    simp only [cc, cwp, cw1, then_id] at h
    obtain ⟨J, μ, h1, h2⟩ := h
    exact wpIn_loop J μ h1 fun a w hJ => cwp_soundIn hm ro n b _ a w (hr.imp (fun h => h) fun h => by simpa only [rdy] using h) hq (h2 a w hJ)
  | .rangeFunc f ps A B, Q, a, w, hr, hq, h => by
    simp only [cc] at h
    split at h
    · rename_i hab
      simp only [Bool.and_eq_true] at hab
      simp only [cwp, cw1, then_id] at h
      have := h f A B rfl rfl rfl hab.1 hab.2
      rcases hr with rfl | hr
      · exact (wpIn_wide (n := n)).2 (by simpa using this)
      · simp [rdy] at hr
    · simp [cwp, cw1] at h
  | .exit id, Q, a, w, _, _, h => by
    simp only [cc, cwp, cw1, Exit.then] at h
    exact wpIn_exit h
  | .ret, Q, a, w, _, _, h => by
    simp only [cc, cwp, cw1, Exit.then] at h
    exact wpIn_ret h
  | .scope b, Q, a, w, hr, hq, h => by
    simp only [cc] at h
    split at h
    · rename_i hn
      rcases hr with rfl | hr
      · have hb := cwp_soundIn hm none n b (fun e a w => ngE e = true ∧ Q e a w) a w (.inl rfl) (fun a w hh => hq a w hh.2) (cwp_ng _ hn (fun e a w he hq => ⟨he, hq⟩) a w h)
        refine (wpIn_wide (n := n)).2 (wp_scope_straight (wp_mono ((wpIn_wide (n := n)).1 hb) ?_))
        rintro e a w ⟨he, hq⟩
        cases e <;> first | exact hq | (simp [ngE] at he)
      · simp [rdy] at hr
    · simp [cwp, cw1] at h
  | .label _, Q, a, w, _, _, h => wpIn_label (by simpa [cc, cwp] using h)
  | .goto _, Q, a, w, _, _, h => by simp [cc, cwp, cw1] at h
  | .refuse _, Q, a, w, _, _, h => by simp [cc, cwp, cw1] at h
theorem cwp_sound {P : Program} (hm : P.follows .mixedOrders = true) (code : Code) (Q : Exit → Act → World → Prop) (a : Act) (w : World) (hq : ∀ a w, ¬ Q .outgrown a w) (h : cwp P (cc code) Q a w) : code.wp P Q a w :=
  (wpIn_wide (n := 0)).1 (cwp_soundIn hm none 0 code Q a w (.inl rfl) hq h)
end Go.Lv
namespace Go.Lv
open Go
def frz (H : List (Nat × Seg)) : Nat → Bool → AV → AV
  | 0, _, _ => .junk
  | k + 1, fl, .ptr id off => match lkf H id with
    | some seg => .rop (fl && seg.fr) ((seg.cells.drop off).map (frz H k fl))
    | none => .junk
  | k + 1, fl, .sl id off n z => match lkf H id with
    | some seg => .ros (fl && seg.fr) n (((seg.cells.drop off).take (n * z)).map (frz H k fl))
    | none => .junk
  | _ + 1, _, .nils => .ros true 0 []
  | k + 1, fl, .rop fr cs => .rop (fl && fr) (cs.map (frz H k fl))
  | k + 1, fl, .ros fr n cs => .ros (fl && fr) n (cs.map (frz H k fl))
  | k + 1, fl, .agg cs => .agg (cs.map (frz H k fl))
  | k + 1, fl, .tup cs => .tup (cs.map (frz H k fl))
  | k + 1, fl, .fn f fs cs => .fn f (fs.map (frz H k fl)) (cs.map (frz H k fl))
  | k + 1, fl, .ifc t x => .ifc t (frz H k fl x)
  | _ + 1, _, x => x
def Cx.rd (c : Cx) (H : List (Nat × Seg)) (fl : Bool) : Cx := ⟨c.w, fun b => c.N b ∨ ∃ id seg, lkf H id = some seg ∧ c.ρ id = some (some b), fun b => fl = true ∧ c.Fb b, fun _ => none⟩
theorem frz_sound {H : List (Nat × Seg)} {c : Cx} (hH : HeapOK c H lkf) (hfr : ∀ id seg b, lkf H id = some seg → c.ρ id = some (some b) → seg.fr = true → c.Fb b) :
    ∀ (k : Nat) (fl : Bool) (x : AV) (c' : Cx) (v : Value), c' = c ∨ c' = c.ro → G x c' v → G (frz H k fl x) (c.rd H fl) v := by
  intro k
  induction k with
  | zero => intro fl x c' v _ _; simp [frz, G]
  | succ k ih =>
    intro fl x c' v hc h
    have hL : ∀ (xs : List AV) (vs : List Value), GL xs c' vs → GL (xs.map (frz H k fl)) (c.rd H fl) vs := by
      intro xs vs hx
      obtain ⟨h1, h2⟩ := (GL_iff xs).1 hx
      refine (GL_iff _).2 ⟨by simpa using h1, fun j y u hy hu => ?_⟩
      rw [List.getElem?_map] at hy
      cases hj : xs[j]? with
      | none => simp [hj] at hy
      | some z => simp only [hj, Option.map_some, Option.some.injEq] at hy; subst hy; exact ih fl z c' u hc (h2 j z u hj hu)
    have hC : ∀ (d : Cx) (xs : List AV) (b o : Nat), d = c ∨ d = c.ro → GC xs d b o → GC (xs.map (frz H k fl)) (c.rd H fl) b o := by
      intro d xs b o hd hx
      rw [GC_iff] at hx ⊢
      intro j y hy
      rw [List.getElem?_map] at hy
      cases hj : xs[j]? with
      | none => simp [hj] at hy
      | some z =>
        simp only [hj, Option.map_some, Option.some.injEq] at hy; subst hy
        obtain ⟨u, h1, h2, h3⟩ := hx j z hj
        refine ⟨u, ?_, h2, ih fl z d u hd h3⟩
        rcases hd with rfl | rfl <;> exact h1
    have hw : c'.w = c.w := by rcases hc with rfl | rfl <;> rfl
    have hN : ∀ b, c'.N b → c.N b := by rcases hc with rfl | rfl <;> exact fun _ h => h
    have hFb : ∀ b, c'.Fb b → c.Fb b := by rcases hc with rfl | rfl <;> exact fun _ h => h
    have hro : c'.ro = c.ro := by rcases hc with rfl | rfl <;> rfl
    have hρ : ∀ id r, c'.ρ id = some r → c.ρ id = some r := by
      rcases hc with rfl | rfl
      · exact fun _ _ h => h
      · intro id r h; simp [Cx.ro] at h
    have rr : (c.rd H fl).ro = c.rd H fl := rfl
    cases x <;> simp only [frz] <;> try (simp only [G] at h ⊢; try exact h)
    case ptr id off =>
      obtain ⟨b, h1, rfl⟩ := h
      have h1 := hρ _ _ h1
      cases hs : lkf H id with
      | none => simp [G]
      | some seg =>
        simp only [G]
        rcases hH id seg hs with ⟨k1, _⟩ | ⟨b', cells, T, k1, k2, k3⟩
        · rw [k1] at h1; cases h1
        · rw [k1] at h1; cases h1
          refine ⟨b, off, rfl, .inr ⟨id, seg, hs, k1⟩, ?_, ?_⟩
          · intro hf; simp only [Bool.and_eq_true] at hf; exact ⟨hf.1, hfr id seg b hs k1 hf.2⟩
          · rw [rr]
            have := GC_drop k3 off
            rw [Nat.zero_add] at this
            exact hC c _ b off (.inl rfl) this
    case sl id off n z =>
      cases hs : lkf H id with
      | none => simp [G]
      | some seg =>
        simp only [G]
        rcases h with ⟨h1, h2, rfl⟩ | ⟨b, o, cap, cells, T, fz, h1, h2, h3, h4, h5, rfl⟩
        · have h1 := hρ _ _ h1
          exact .inl ⟨h2, by subst h2; simp, none, rfl⟩
        · have h1 := hρ _ _ h1
          rcases hH id seg hs with ⟨k1, _⟩ | ⟨b', cells', T', k1, k2, k3⟩
          · rw [k1] at h1; cases h1
          · rw [k1] at h1; cases h1
            refine .inr ⟨b, o, cap, rfl, h3, .inr ⟨id, seg, hs, k1⟩, ?_, ?_⟩
            · intro hf; simp only [Bool.and_eq_true] at hf; exact ⟨hf.1, hfr id seg b hs k1 hf.2⟩
            · rw [rr]
              by_cases hn : n = 0
              · subst hn; simp [GC]
              · have ho : o = off := by rcases h4 with h4 | h4 <;> omega
                subst ho
                have := GC_drop k3 o
                rw [Nat.zero_add] at this
                exact hC c _ b o (.inl rfl) (GC_take this (n * z))
    case nils => exact .inl ⟨trivial, trivial, none, h⟩
    case rop fr cs =>
      obtain ⟨b, off, rfl, h1, h2, h3⟩ := h
      refine ⟨b, off, rfl, .inl (hN _ h1), ?_, ?_⟩
      · intro hf; simp only [Bool.and_eq_true] at hf; exact ⟨hf.1, hFb _ (h2 hf.2)⟩
      · rw [rr]; rw [hro] at h3; exact hC _ _ b off (.inr rfl) h3
    case ros fr n cs =>
      rcases h with ⟨h1, h2, base, rfl⟩ | ⟨b, off, cap, rfl, h1, h2, h3, h4⟩
      · exact .inl ⟨h1, by subst h2; rfl, base, rfl⟩
      · refine .inr ⟨b, off, cap, rfl, h1, .inl (hN _ h2), ?_, ?_⟩
        · intro hf; simp only [Bool.and_eq_true] at hf; exact ⟨hf.1, hFb _ (h3 hf.2)⟩
        · rw [rr]; rw [hro] at h4; exact hC _ _ b off (.inr rfl) h4
    case agg cs => obtain ⟨vs, rfl, h1, h2⟩ := h; exact ⟨vs, rfl, h1, hL _ _ h2⟩
    case tup cs => obtain ⟨vs, rfl, h2⟩ := h; exact ⟨vs, rfl, hL _ _ h2⟩
    case fn f fs cs => obtain ⟨vs, us, rfl, h1, h2⟩ := h; exact ⟨vs, us, rfl, hL _ _ h1, hL _ _ h2⟩
    case ifc t y => obtain ⟨u, rfl, h1⟩ := h; exact ⟨u, rfl, ih fl y c' u hc h1⟩
def own : AV → Bool
  | .ptr _ _ => true
  | .sl _ _ _ _ => true
  | .rop _ cs => ownL cs
  | .ros _ _ cs => ownL cs
  | .agg cs => ownL cs
  | .tup cs => ownL cs
  | .fn _ fs cs => ownL fs || ownL cs
  | .ifc _ x => own x
  | _ => false
where ownL : List AV → Bool
  | [] => false
  | x :: xs => own x || ownL xs
def cln : AV → Bool
  | .ptr _ _ => false
  | .sl _ _ _ _ => false
  | .rop fr cs => fr && clnL cs
  | .ros fr _ cs => fr && clnL cs
  | .agg cs => clnL cs
  | .tup cs => clnL cs
  | .fn _ fs cs => clnL fs && clnL cs
  | .ifc _ x => cln x
  | _ => true
where clnL : List AV → Bool
  | [] => true
  | x :: xs => cln x && clnL xs
theorem ownL_iff : ∀ (xs : List AV), own.ownL xs = false ↔ ∀ x ∈ xs, own x = false
  | [] => by simp [own.ownL]
  | x :: xs => by simp [own.ownL, ownL_iff xs]
theorem clnL_iff : ∀ (xs : List AV), cln.clnL xs = true ↔ ∀ x ∈ xs, cln x = true
  | [] => by simp [cln.clnL]
  | x :: xs => by simp [cln.clnL, clnL_iff xs]
theorem frz_own (H : List (Nat × Seg)) : ∀ (k : Nat) (fl : Bool) (x : AV), own x = false → frz H k fl x = frz [] k fl x := by
  intro k
  induction k with
  | zero => intro fl x _; simp [frz]
  | succ k ih =>
    intro fl x hx
    have hL : ∀ xs : List AV, own.ownL xs = false → xs.map (frz H k fl) = xs.map (frz [] k fl) := by
      intro xs h
      rw [ownL_iff] at h
      exact List.map_congr_left fun y hy => ih fl y (h y hy)
    cases x <;> simp only [frz] <;> simp only [own, Bool.or_eq_false_iff, reduceCtorEq] at hx
    case rop fr cs => rw [hL cs hx]
    case ros fr n cs => rw [hL cs hx]
    case agg cs => rw [hL cs hx]
    case tup cs => rw [hL cs hx]
    case fn f fs cs => rw [hL fs hx.1, hL cs hx.2]
    case ifc t y => rw [ih fl y hx]
mutual
theorem G_cln : ∀ (x : AV) {c c' : Cx} {v : Value}, cln x = true → c.w = c'.w → (∀ b, c.N b → c.Fb b → c'.N b) → (∀ b, c.Fb b → c'.Fb b) → G x c v → G x c' v
  | .ptr _ _, _, _, _, h, _, _, _, _ => by simp [cln] at h
  | .sl _ _ _ _, _, _, _, h, _, _, _, _ => by simp [cln] at h
  | .rop fr cs, c, c', v, h, hw, hN, hF, g => by
    simp only [cln, Bool.and_eq_true] at h
    simp only [G] at g ⊢
    obtain ⟨b, off, rfl, h1, h2, h3⟩ := g
    exact ⟨b, off, rfl, hN b h1 (h2 h.1), fun hf => hF b (h2 hf), GC_cln cs (c := c.ro) (c' := c'.ro) h.2 hw hN hF h3⟩
  | .ros fr n cs, c, c', v, h, hw, hN, hF, g => by
    simp only [cln, Bool.and_eq_true] at h
    simp only [G] at g ⊢
    rcases g with g | ⟨b, off, cap, rfl, h1, h2, h3, h4⟩
    · exact .inl g
    · exact .inr ⟨b, off, cap, rfl, h1, hN b h2 (h3 h.1), fun hf => hF b (h3 hf), GC_cln cs (c := c.ro) (c' := c'.ro) h.2 hw hN hF h4⟩
  | .agg cs, c, c', v, h, hw, hN, hF, g => by
    simp only [cln] at h
    simp only [G] at g ⊢
    obtain ⟨vs, rfl, h1, h2⟩ := g
    exact ⟨vs, rfl, h1, GL_cln cs h hw hN hF h2⟩
  | .tup cs, c, c', v, h, hw, hN, hF, g => by
    simp only [cln] at h
    simp only [G] at g ⊢
    obtain ⟨vs, rfl, h2⟩ := g
    exact ⟨vs, rfl, GL_cln cs h hw hN hF h2⟩
  | .fn f fs cs, c, c', v, h, hw, hN, hF, g => by
    simp only [cln, Bool.and_eq_true] at h
    simp only [G] at g ⊢
    obtain ⟨vs, us, rfl, h1, h2⟩ := g
    exact ⟨vs, us, rfl, GL_cln fs h.1 hw hN hF h1, GL_cln cs h.2 hw hN hF h2⟩
  | .ifc t x, c, c', v, h, hw, hN, hF, g => by
    simp only [cln] at h
    simp only [G] at g ⊢
    obtain ⟨u, rfl, h1⟩ := g
    exact ⟨u, rfl, G_cln x h hw hN hF h1⟩
  | .i _, _, _, _, _, _, _, _, g => by simpa only [G] using g
  | .u8 _, _, _, _, _, _, _, _, g => by simpa only [G] using g
  | .u16 _, _, _, _, _, _, _, _, g => by simpa only [G] using g
  | .u32 _, _, _, _, _, _, _, _, g => by simpa only [G] using g
  | .u64 _, _, _, _, _, _, _, _, g => by simpa only [G] using g
  | .b _, _, _, _, _, _, _, _, g => by simpa only [G] using g
  | .s _, _, _, _, _, _, _, _, g => by simpa only [G] using g
  | .nilp, _, _, _, _, _, _, _, g => by simpa only [G] using g
  | .nils, _, _, _, _, _, _, _, g => by simpa only [G] using g
  | .nilfn, _, _, _, _, _, _, _, g => by simpa only [G] using g
  | .nilif, _, _, _, _, _, _, _, g => by simpa only [G] using g
  | .junk, _, _, _, _, _, _, _, _ => by simp only [G]
theorem GL_cln : ∀ (xs : List AV) {c c' : Cx} {vs : List Value}, cln.clnL xs = true → c.w = c'.w → (∀ b, c.N b → c.Fb b → c'.N b) → (∀ b, c.Fb b → c'.Fb b) → GL xs c vs → GL xs c' vs
  | [], _, _, _, _, _, _, _, g => by simpa only [GL] using g
  | x :: xs, c, c', vs, h, hw, hN, hF, g => by
    simp only [cln.clnL, Bool.and_eq_true] at h
    simp only [GL] at g ⊢
    obtain ⟨u, us, rfl, h1, h2⟩ := g
    exact ⟨u, us, rfl, G_cln x h.1 hw hN hF h1, GL_cln xs h.2 hw hN hF h2⟩
theorem GC_cln : ∀ (xs : List AV) {c c' : Cx} {b o : Nat}, cln.clnL xs = true → c.w = c'.w → (∀ b, c.N b → c.Fb b → c'.N b) → (∀ b, c.Fb b → c'.Fb b) → GC xs c b o → GC xs c' b o
  | [], _, _, _, _, _, _, _, _, _ => by simp only [GC]
  | x :: xs, c, c', b, o, h, hw, hN, hF, g => by
    simp only [cln.clnL, Bool.and_eq_true] at h
    simp only [GC] at g ⊢
    obtain ⟨⟨u, h0, h1, h2⟩, h3⟩ := g
    exact ⟨⟨u, by rw [← hw]; exact h0, h1, G_cln x h.1 hw hN hF h2⟩, GC_cln xs h.2 hw hN hF h3⟩
end
def isFn (P : Program) (n : Nat) : Prop := ∃ fn c, P.funcs[n]? = some fn ∧ fn.body = some c ∧ (fn.name == "runtime.NumGoroutine") = false
structure Wok (Gl : List (Nat × List AV)) (w : World) (N : Nat → Prop) : Prop where
  lt : ∀ b, N b → b < w.heap.size
  gl : ∀ g cs, lkf Gl g = some cs → N g ∧ GC cs ⟨w, N, fun _ => False, fun _ => none⟩ g 0
structure Post (w w' : World) (N N' : Nat → Prop) : Prop where
  lo : w.heap.size ≤ w'.heap.size
  ext : ∀ b, b < w.heap.size → w'.heap[b]? = w.heap[b]?
  os : w'.os = w.os
  tape : w'.tape = w.tape
  output : w'.output = w.output
  le : ∀ b, N b → N' b
  lt : ∀ b, N' b → b < w'.heap.size
  fr : ∀ b, N' b → N b ∨ w.heap.size ≤ b
def Fun (P : Program) (Gl : List (Nat × List AV)) (n : Nat) (as : List AV) (r : AV) : Prop :=
  isFn P n ∧ ∀ (w : World) (N : Nat → Prop) (vs : List Value), Wok Gl w N → GL as ⟨w, N, fun _ => False, fun _ => none⟩ vs →
    Calls P n vs.toArray w fun e w' => ∃ v N', e = .returned v ∧ Post w w' N N' ∧ G r ⟨w', N', fun b => w.heap.size ≤ b, fun _ => none⟩ v
section
variable {E : Ent} {s : St} {ρ : Nat → Option (Option Nat)} {N : Nat → Prop} {a : Act} {w : World}
theorem Rel.called (r : Rel E s ρ N a w) {w' : World} {N' : Nat → Prop} (lo : w.heap.size ≤ w'.heap.size) (ext : ∀ b, b < w.heap.size → w'.heap[b]? = w.heap[b]?) (os : w'.os = w.os) (tape : w'.tape = w.tape)
    (output : w'.output = w.output) (le : ∀ b, N b → N' b) (lt : ∀ b, N' b → b < w'.heap.size) (fr : ∀ b, N' b → N b ∨ w.heap.size ≤ b) : Rel E s ρ N' a w' := by
  have hle : (E.cx w N ρ).le (E.cx w' N' ρ) := ⟨le, fun b hb => ext b (r.Nlt b hb), fun _ _ h => h, fun _ h => h, fun b c T f h => ⟨c, T, f, (ext b (Array.getElem?_eq_some_iff.1 h).1).trans h, rfl⟩⟩
  have hlt : ∀ {b : Nat} {x : Obj}, w.heap[b]? = some x → b < w.heap.size := fun h => (Array.getElem?_eq_some_iff.1 h).1
  refine r.next (H' := s.H) (nx' := s.nx) ⟨hle, lt, fun b hb => (fr b hb).imp_right (Nat.le_trans r.lo), ?_, ?_, r.inj, r.nx, lo, fun b hb _ => ext b (Nat.lt_of_lt_of_le hb r.lo), os, tape, output⟩
  · intro id seg h
    rcases r.hp id seg h with h | ⟨b, c, T, h1, h2, h3⟩
    · exact .inl h
    · exact .inr ⟨b, c, T, h1, (ext b (hlt h2)).trans h2, GC_mono hle (fun o => cell_of_heap (ext b (hlt h2)) o) _ h3⟩
  · intro id seg b h hb
    obtain ⟨h1, h2, h3⟩ := r.own id seg b h hb
    refine ⟨fun hN => ?_, h2, h3⟩
    rcases fr b hN with h4 | h4
    · exact h1 h4
    · rcases r.hp id seg h with ⟨h5, _⟩ | ⟨b', c, T, h5, h6, _⟩
      · rw [show ρ id = some none from h5] at hb; cases hb
      · rw [show ρ id = some (some b') from h5] at hb; cases hb
        have := hlt h6; omega
theorem GL_map {c c' : Cx} {f : AV → AV} (hf : ∀ x v, G x c v → G (f x) c' v) {xs : List AV} {vs : List Value} (h : GL xs c vs) : GL (xs.map f) c' vs := by
  obtain ⟨h1, h2⟩ := (GL_iff xs).1 h
  refine (GL_iff _).2 ⟨by simpa using h1, fun j y u hy hu => ?_⟩
  rw [List.getElem?_map] at hy
  cases hj : xs[j]? with
  | none => simp [hj] at hy
  | some z => simp only [hj, Option.map_some, Option.some.injEq] at hy; subst hy; exact hf z u (h2 j z u hj hu)
theorem Rel.callP (r : Rel E s ρ N a w) {n : Nat} {xs : List AV} {vs : List Value} {y : AV} (hf : Fun E.P E.Gl n (xs.map (frz s.H 8 false)) y) (hx : GL xs (E.cx w N ρ) vs) (ho : own.ownL xs = false ∨ cln y = true) :
    Calls E.P n vs.toArray w fun e w' => ∃ v N', e = .returned v ∧ Post w w' N N' ∧ G y (E.cx w' N' ρ) v := by
  have hfr : ∀ id seg b, lkf s.H id = some seg → (E.cx w N ρ).ρ id = some (some b) → seg.fr = true → (E.cx w N ρ).Fb b := fun id seg b h1 h2 h3 => (r.own id seg b h1 h2).2.2 h3
  have glob : ∀ (N' : Nat → Prop), (∀ b, N b → N' b) → ∀ g cs, lkf E.Gl g = some cs → N' g ∧ GC cs ⟨w, N', fun _ => False, fun _ => none⟩ g 0 := by
    intro N' hN g cs h
    obtain ⟨h1, h2⟩ := r.glob g cs h
    exact ⟨hN g h1, GC_mono (c := (E.cx w N ρ).rf) (c' := ⟨w, N', fun _ => False, fun _ => none⟩) ⟨hN, fun _ _ => rfl, fun _ _ h => by simp [Cx.rf] at h, fun _ h => h, fun _ c T f h => ⟨c, T, f, h, rfl⟩⟩ (fun _ => rfl) _ h2⟩
  have up : ∀ (w' : World) (N' : Nat → Prop) (x : AV) (v : Value), G x ⟨w', N', fun b => w.heap.size ≤ b, fun _ => none⟩ v → G x (E.cx w' N' ρ) v := fun w' N' x v h =>
    G_mono x (c := ⟨w', N', fun b => w.heap.size ≤ b, fun _ => none⟩) (c' := E.cx w' N' ρ) ⟨fun _ h => h, fun _ _ => rfl, fun _ _ h => (by cases h), fun b h => Nat.le_trans (Nat.le_trans r.fbl r.lo) h, fun _ c T f h => ⟨c, T, f, h, rfl⟩⟩ h
  cases hos : own.ownL xs with
  | false =>
    have hx' : GL (xs.map (frz s.H 8 false)) ⟨w, N, fun _ => False, fun _ => none⟩ vs := by
      have e : xs.map (frz s.H 8 false) = xs.map (frz [] 8 false) := List.map_congr_left fun y hy => frz_own _ _ _ _ ((ownL_iff xs).1 hos y hy)
      rw [e]
      refine GL_map (c := E.cx w N ρ) (fun x v h => ?_) hx
      refine G_mono _ ?_ (frz_sound (H := []) (fun id seg h => by simp [lkf] at h) (fun id seg b h => by simp [lkf] at h) 8 false x _ v (.inl rfl) h)
      exact ⟨fun b h => h.elim id fun ⟨_, _, h, _⟩ => by simp [lkf] at h, fun _ _ => rfl, fun _ _ h => (by cases h), fun b h => by simp [Cx.rd] at h, fun _ c T f h => ⟨c, T, f, h, rfl⟩⟩
    refine Calls.mono (hf.2 w N vs ⟨r.Nlt, glob N fun _ h => h⟩ hx') ?_
    rintro e w' ⟨v, N', rfl, p, g⟩
    exact ⟨v, N', rfl, p, up _ _ _ _ g⟩
  | true =>
    have hc : cln y = true := ho.resolve_left (by simp [hos])
    let N1 : Nat → Prop := fun b => N b ∨ ∃ id seg, lkf s.H id = some seg ∧ ρ id = some (some b)
    have hx' : GL (xs.map (frz s.H 8 false)) ⟨w, N1, fun _ => False, fun _ => none⟩ vs := by
      refine GL_map (c := E.cx w N ρ) (fun x v h => ?_) hx
      refine G_mono _ ?_ (frz_sound r.hp hfr 8 false x _ v (.inl rfl) h)
      exact ⟨fun b h => h, fun _ _ => rfl, fun _ _ h => (by cases h), fun b h => by simp [Cx.rd] at h, fun _ c T f h => ⟨c, T, f, h, rfl⟩⟩
    have hlt : ∀ b, N1 b → b < w.heap.size := by
      rintro b (h | ⟨id, seg, h1, h2⟩)
      · exact r.Nlt b h
      · rcases r.hp id seg h1 with ⟨h5, _⟩ | ⟨b', c, T, h5, h6, _⟩
        · rw [show ρ id = some none from h5] at h2; cases h2
        · rw [show ρ id = some (some b') from h5] at h2; cases h2
          exact (Array.getElem?_eq_some_iff.1 h6).1
    refine Calls.mono (hf.2 w N1 vs ⟨hlt, glob N1 fun _ h => .inl h⟩ hx') ?_
    rintro e w' ⟨v, N', rfl, p, g⟩
    refine ⟨v, fun b => N b ∨ (N' b ∧ w.heap.size ≤ b), rfl, ⟨p.lo, p.ext, p.os, p.tape, p.output, fun _ h => .inl h, ?_, ?_⟩, ?_⟩
    · rintro b (h | h)
      · exact p.lt b (p.le b (.inl h))
      · exact p.lt b h.1
    · rintro b (h | h)
      · exact .inl h
      · exact .inr h.2
    · exact up _ _ _ _ (G_cln y (c := ⟨w', N', fun b => w.heap.size ≤ b, fun _ => none⟩) (c' := ⟨w', _, fun b => w.heap.size ≤ b, fun _ => none⟩) hc rfl (fun b h1 h2 => .inr ⟨h1, h2⟩) (fun _ h => h) g)
end
end Go.Lv
