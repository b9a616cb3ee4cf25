/- The abstract walk: an own kit for walks over this program (part FA). -/
import Derived.Calls
import Derived.Orders
import Derived.Laws.World
import Derived.Laws.Sem
import Derived.Laws.Cells
import Derived.Attr
import Derived.Laws.StructEq
import Derived.Laws.BytesString
import Derived.Laws.BytesArg
import Derived.Laws.MakeOwn
import Derived.Laws.AppendOwn
import Derived.Laws.Rows
import Derived.Laws.CopyRow
set_option linter.all false
namespace Go.Lv
open Go
inductive AV where
  | i (n : Int)
  | u8 (x : BitVec 8)
  | u16 (x : BitVec 16)
  | u32 (x : BitVec 32)
  | u64 (x : BitVec 64)
  | b (x : Bool)
  | s (x : ByteArray)
  | ptr (id off : Nat)
  | nilp
  | rop (fr : Bool) (cs : List AV)
  | sl (id off n z : Nat)
  | nils
  | ros (fr : Bool) (n : Nat) (cs : List AV)
  | agg (cs : List AV)
  | tup (cs : List AV)
  | fn (f : Fn) (first cap : List AV)
  | nilfn
  | ifc (t : TypeId) (v : AV)
  | nilif
  | junk
  deriving Inhabited
structure Seg where
  cells : List AV
  fr : Bool
  deriving Inhabited
structure St where
  F : List (Nat × AV)
  H : List (Nat × Seg)
  nx : Nat
structure Cx where
  w : World
  N : Nat → Prop
  Fb : Nat → Prop
  ρ : Nat → Option (Option Nat)
def Cx.ro (c : Cx) : Cx := { c with ρ := fun _ => none }
mutual
def G : AV → Cx → Value → Prop
  | .i n, _, v => v = .int .i64 n
  | .u8 x, _, v => v = .int .u8 x.toNat
  | .u16 x, _, v => v = .int .u16 x.toNat
  | .u32 x, _, v => v = .int .u32 x.toNat
  | .u64 x, _, v => v = .int .u64 x.toNat
  | .b x, _, v => v = .bool x
  | .s x, _, v => v = .string x
  | .ptr id off, c, v => ∃ b, c.ρ id = some (some b) ∧ v = .pointer (some ⟨b, off, none⟩)
  | .nilp, _, v => v = .pointer none
  | .rop fr cs, c, v => ∃ b off, v = .pointer (some ⟨b, off, none⟩) ∧ c.N b ∧ (fr = true → c.Fb b) ∧ GC cs c.ro b off
  | .sl id off n z, c, v => (c.ρ id = some none ∧ n = 0 ∧ v = .slice none 0 0) ∨
      ∃ (b o cap : Nat) (cells : Array Value) (T : TypeId) (fz : Nat × Nat), c.ρ id = some (some b) ∧ c.w.heap[b]? = some (Obj.cells cells T fz) ∧ n ≤ cap ∧ (o = off ∨ cap = 0) ∧ o + cap * z ≤ cells.size ∧
        v = .slice (some ⟨b, o, none⟩) n cap
  | .nils, _, v => v = .slice none 0 0
  | .ros fr n cs, c, v => (n = 0 ∧ cs = [] ∧ ∃ base, v = .slice base 0 0) ∨
      ∃ b off cap, v = .slice (some ⟨b, off, none⟩) n cap ∧ n ≤ cap ∧ c.N b ∧ (fr = true → c.Fb b) ∧ GC cs c.ro b off
  | .agg cs, c, v => ∃ vs, v = .agg vs ∧ (∀ u ∈ vs.toList, u.oneCell' = true) ∧ GL cs c vs.toList
  | .tup cs, c, v => ∃ vs, v = .tuple vs ∧ GL cs c vs.toList
  | .fn f fs cs, c, v => ∃ vs us, v = .func f vs us ∧ GL fs c vs.toList ∧ GL cs c us.toList
  | .nilfn, _, v => v = .nilFunc
  | .ifc t x, c, v => ∃ u, v = .iface t u ∧ G x c u
  | .nilif, _, v => v = .nilIface
  | .junk, _, _ => True
def GL : List AV → Cx → List Value → Prop
  | [], _, vs => vs = []
  | x :: xs, c, vs => ∃ u us, vs = u :: us ∧ G x c u ∧ GL xs c us
def GC : List AV → Cx → Nat → Nat → Prop
  | [], _, _, _ => True
  | x :: xs, c, b, o => (∃ u, c.w.cell? ⟨b, o, none⟩ = some u ∧ u.oneCell' = true ∧ G x c u) ∧ GC xs c b (o + 1)
end
structure Cx.le (c c' : Cx) : Prop where
  N : ∀ b, c.N b → c'.N b
  ro : ∀ b, c.N b → c'.w.heap[b]? = c.w.heap[b]?
  ρ : ∀ id r, c.ρ id = some r → c'.ρ id = some r
  Fb : ∀ b, c.Fb b → c'.Fb b
  sz : ∀ (b : Nat) (cells : Array Value) (T : TypeId) (fz : Nat × Nat), c.w.heap[b]? = some (Obj.cells cells T fz) → ∃ (cells' : Array Value) (T' : TypeId) (fz' : Nat × Nat), c'.w.heap[b]? = some (Obj.cells cells' T' fz') ∧ cells'.size = cells.size
theorem Cx.le.toRo {c c' : Cx} (h : c.le c') : c.ro.le c'.ro :=
  ⟨h.N, h.ro, fun _ _ hk => by simp [Cx.ro] at hk, h.Fb, h.sz⟩
def Cx.rf (c : Cx) : Cx := { c with Fb := fun _ => False, ρ := fun _ => none }
theorem Cx.le.toRf {c c' : Cx} (h : c.le c') : c.rf.le c'.rf :=
  ⟨h.N, h.ro, fun _ _ hk => by simp [Cx.rf] at hk, fun _ hk => hk, h.sz⟩
theorem cell_of_heap {w w' : World} {b : Nat} (h : w'.heap[b]? = w.heap[b]?) (o : Nat) : w'.cell? ⟨b, o, none⟩ = w.cell? ⟨b, o, none⟩ := by
  simp only [World.cell?, h]
mutual
theorem G_mono : ∀ (x : AV) {c c' : Cx} {v : Value}, c.le c' → G x c v → G x c' v
  | .i _, _, _, _, _, h | .u8 _, _, _, _, _, h | .u16 _, _, _, _, _, h | .u32 _, _, _, _, _, h | .u64 _, _, _, _, _, h | .b _, _, _, _, _, h
  | .s _, _, _, _, _, h | .nilp, _, _, _, _, h | .nils, _, _, _, _, h | .nilfn, _, _, _, _, h | .nilif, _, _, _, _, h | .junk, _, _, _, _, h => by simp only [G] at h ⊢ <;> exact h
  | .ptr id off, c, c', v, hl, h => by
    simp only [G] at h ⊢
    obtain ⟨b, h1, h2⟩ := h
    exact ⟨b, hl.ρ _ _ h1, h2⟩
  | .rop fr cs, c, c', v, hl, h => by
    simp only [G] at h ⊢
    obtain ⟨b, off, h1, h2, h3, h4⟩ := h
    exact ⟨b, off, h1, hl.N _ h2, fun e => hl.Fb _ (h3 e), GC_ro cs hl h2 h4⟩
  | .sl id off n z, c, c', v, hl, h => by
    simp only [G] at h ⊢
    rcases h with ⟨h1, h2, h3⟩ | ⟨b, o, cap, cells, T, fz, h1, h2, h3, h4, h5, h6⟩
    · exact .inl ⟨hl.ρ _ _ h1, h2, h3⟩
    · obtain ⟨cells', T', fz', h7, h8⟩ := hl.sz _ _ _ _ h2
      exact .inr ⟨b, o, cap, cells', T', fz', hl.ρ _ _ h1, h7, h3, h4, by omega, h6⟩
  | .ros fr n cs, c, c', v, hl, h => by
    simp only [G] at h ⊢
    rcases h with h | ⟨b, off, cap, h1, h2, h3, h4, h5⟩
    · exact .inl h
    · exact .inr ⟨b, off, cap, h1, h2, hl.N _ h3, fun e => hl.Fb _ (h4 e), GC_ro cs hl h3 h5⟩
  | .agg cs, c, c', v, hl, h => by
    simp only [G] at h ⊢
    obtain ⟨vs, h1, h0, h2⟩ := h
    exact ⟨vs, h1, h0, GL_mono cs hl h2⟩
  | .tup cs, c, c', v, hl, h => by
    simp only [G] at h ⊢
    obtain ⟨vs, h1, h2⟩ := h
    exact ⟨vs, h1, GL_mono cs hl h2⟩
  | .fn f fs cs, c, c', v, hl, h => by
    simp only [G] at h ⊢
    obtain ⟨vs, us, h1, h2, h3⟩ := h
    exact ⟨vs, us, h1, GL_mono fs hl h2, GL_mono cs hl h3⟩
  | .ifc t x, c, c', v, hl, h => by
    simp only [G] at h ⊢
    obtain ⟨u, h1, h2⟩ := h
    exact ⟨u, h1, G_mono x hl h2⟩
theorem GL_mono : ∀ (xs : List AV) {c c' : Cx} {vs : List Value}, c.le c' → GL xs c vs → GL xs c' vs
  | [], _, _, _, _, h => by simpa [GL] using h
  | x :: xs, c, c', vs, hl, h => by
    simp only [GL] at h ⊢
    obtain ⟨u, us, h1, h2, h3⟩ := h
    exact ⟨u, us, h1, G_mono x hl h2, GL_mono xs hl h3⟩
theorem GC_ro : ∀ (xs : List AV) {c c' : Cx} {b o : Nat}, c.le c' → c.N b → GC xs c.ro b o → GC xs c'.ro b o
  | [], _, _, _, _, _, _, _ => by simp [GC]
  | x :: xs, c, c', b, o, hl, hN, h => by
    simp only [GC] at h ⊢
    obtain ⟨⟨u, h1, h2, h3⟩, h4⟩ := h
    refine ⟨⟨u, ?_, h2, G_mono x hl.toRo h3⟩, GC_ro xs hl hN h4⟩
    have := cell_of_heap (hl.ro b hN) o
    simpa [Cx.ro, this] using h1
end
theorem GC_mono {c c' : Cx} {b : Nat} (hl : c.le c') (hb : ∀ o, c'.w.cell? ⟨b, o, none⟩ = c.w.cell? ⟨b, o, none⟩) : ∀ (xs : List AV) {o : Nat}, GC xs c b o → GC xs c' b o
  | [], _, _ => by simp [GC]
  | x :: xs, o, h => by
    simp only [GC] at h ⊢
    obtain ⟨⟨u, h1, h2, h3⟩, h4⟩ := h
    exact ⟨⟨u, by rw [hb]; exact h1, h2, G_mono x hl h3⟩, GC_mono hl hb xs h4⟩
theorem GC_iff {c : Cx} {b : Nat} : ∀ (xs : List AV) {o : Nat}, GC xs c b o ↔ ∀ (j : Nat) (x : AV), xs[j]? = some x → ∃ u, c.w.cell? ⟨b, o + j, none⟩ = some u ∧ u.oneCell' = true ∧ G x c u
  | [], _ => by simp [GC]
  | x :: xs, o => by
    simp only [GC, GC_iff xs]
    constructor
    · rintro ⟨h0, h⟩ j y hj
      cases j with
      | zero => simp at hj; subst hj; exact h0
      | succ j => have := h j y (by simpa using hj); rwa [show o + (j + 1) = o + 1 + j from by omega]
    · intro h
      refine ⟨by simpa using h 0 x rfl, fun j y hj => ?_⟩
      have := h (j + 1) y (by simpa using hj)
      rwa [show o + (j + 1) = o + 1 + j from by omega] at this
theorem GL_iff {c : Cx} : ∀ (xs : List AV) {vs : List Value}, GL xs c vs ↔ xs.length = vs.length ∧ ∀ (j : Nat) (x : AV) (v : Value), xs[j]? = some x → vs[j]? = some v → G x c v
  | [], vs => by cases vs <;> simp [GL]
  | x :: xs, vs => by
    cases vs with
    | nil => simp [GL]
    | cons v vs =>
      simp only [GL, GL_iff xs, List.cons.injEq, List.length_cons]
      constructor
      · rintro ⟨u, us, ⟨rfl, rfl⟩, h1, h2, h3⟩
        refine ⟨by omega, fun j y z hj hz => ?_⟩
        cases j with
        | zero => simp at hj hz; subst hj hz; exact h1
        | succ j => exact h3 j y z (by simpa using hj) (by simpa using hz)
      · rintro ⟨h1, h2⟩
        exact ⟨v, vs, ⟨rfl, rfl⟩, h2 0 x v rfl rfl, by omega, fun j y z hj hz => h2 (j + 1) y z (by simpa using hj) (by simpa using hz)⟩
theorem GL_length {c : Cx} {xs : List AV} {vs : List Value} (h : GL xs c vs) : xs.length = vs.length := ((GL_iff xs).1 h).1
theorem Cx.le.trans {a b c : Cx} (h : a.le b) (k : b.le c) : a.le c :=
  ⟨fun x hx => k.N x (h.N x hx), fun x hx => (k.ro x (h.N x hx)).trans (h.ro x hx), fun i r hi => k.ρ i r (h.ρ i r hi), fun x hx => k.Fb x (h.Fb x hx),
   fun x cells T fz hx => by
    obtain ⟨c1, T1, f1, h1, e1⟩ := h.sz x cells T fz hx
    obtain ⟨c2, T2, f2, h2, e2⟩ := k.sz x c1 T1 f1 h1
    exact ⟨c2, T2, f2, h2, by omega⟩⟩
theorem ro_le (c : Cx) : c.ro.le c := ⟨fun _ h => h, fun _ _ => rfl, fun _ _ h => by simp [Cx.ro] at h, fun _ h => h, fun _ cells T fz h => ⟨cells, T, fz, h, rfl⟩⟩
theorem GC_vals {c : Cx} {b : Nat} : ∀ (xs : List AV) {o : Nat}, GC xs c b o → ∃ vs : List Value, vs.length = xs.length ∧ (∀ (j : Nat) (v : Value), vs[j]? = some v → c.w.cell? ⟨b, o + j, none⟩ = some v) ∧ (∀ u ∈ vs, u.oneCell' = true) ∧ GL xs c vs
  | [], _, _ => ⟨[], rfl, by simp, by simp, by simp [GL]⟩
  | x :: xs, o, h => by
    simp only [GC] at h
    obtain ⟨⟨u, h1, h2, h3⟩, h4⟩ := h
    obtain ⟨vs, k1, k2, k3, k4⟩ := GC_vals xs h4
    refine ⟨u :: vs, by simp [k1], fun j v hj => ?_, by simpa using ⟨h2, k3⟩, by simp only [GL]; exact ⟨u, vs, rfl, h3, k4⟩⟩
    cases j with
    | zero => simp at hj; subst hj; exact h1
    | succ j => have := k2 j v (by simpa using hj); rwa [show o + (j + 1) = o + 1 + j from by omega]
theorem GC_drop {c : Cx} {b : Nat} {xs : List AV} {o : Nat} (h : GC xs c b o) (k : Nat) : GC (xs.drop k) c b (o + k) := by
  rw [GC_iff] at h ⊢
  intro j x hj
  rw [List.getElem?_drop] at hj
  have := h _ _ hj
  rwa [show o + k + j = o + (k + j) from by omega]
theorem GC_take {c : Cx} {b : Nat} {xs : List AV} {o : Nat} (h : GC xs c b o) (k : Nat) : GC (xs.take k) c b o := by
  rw [GC_iff] at h ⊢
  intro j x hj
  rw [List.getElem?_take] at hj
  split at hj
  · exact h _ _ hj
  · cases hj
theorem GC_append {c : Cx} {b : Nat} : ∀ (xs ys : List AV) {o : Nat}, GC (xs ++ ys) c b o ↔ GC xs c b o ∧ GC ys c b (o + xs.length)
  | [], ys, o => by simp [GC]
  | x :: xs, ys, o => by
    simp only [List.cons_append, GC, GC_append xs ys, List.length_cons, and_assoc]
    rw [show o + 1 + xs.length = o + (xs.length + 1) from by omega]
end Go.Lv
namespace Go.Lv
open Go
theorem wrap_i64 {x : Int} (h : -9223372036854775808 ≤ x ∧ x ≤ 9223372036854775807) : IntKind.i64.wrap x = x := by
  simp only [IntKind.wrap, IntKind.bits, IntKind.signed, Bool.true_and, Nat.reduceSub, Int.reducePow]
  split <;> rename_i h' <;> simp only [ge_iff_le, decide_eq_true_eq, Int.not_le] at h' <;> omega
theorem wrap_u {k : IntKind} (hk : k.signed = false) (n : Int) : k.wrap n = ((BitVec.ofInt k.bits n).toNat : Int) := by
  have h0 : (0 : Int) < 2 ^ k.bits := by cases k <;> decide
  have h1 : 0 ≤ n % (2 ^ k.bits : Int) := Int.emod_nonneg _ (by omega)
  simp only [IntKind.wrap, hk, Bool.false_and, Bool.false_eq_true, if_false, BitVec.toNat_ofInt]
  simp only [Int.natCast_pow, Int.cast_ofNat_Int]
  omega
theorem ofInt_toNat {n : Nat} (x : BitVec n) : BitVec.ofInt n (x.toNat : Int) = x := by
  apply BitVec.eq_of_toNat_eq
  simp
theorem u_add {n : Nat} (x y : BitVec n) : BitVec.ofInt n ((x.toNat : Int) + y.toNat) = x + y := by
  rw [BitVec.ofInt_add, ofInt_toNat, ofInt_toNat]
theorem u_mul {n : Nat} (x y : BitVec n) : BitVec.ofInt n ((x.toNat : Int) * y.toNat) = x * y := by
  rw [BitVec.ofInt_mul, ofInt_toNat, ofInt_toNat]
theorem u_sub {n : Nat} (x y : BitVec n) : BitVec.ofInt n ((x.toNat : Int) - y.toNat) = x - y := by
  rw [Int.sub_eq_add_neg, BitVec.ofInt_add, BitVec.ofInt_neg, ofInt_toNat, ofInt_toNat, BitVec.sub_eq_add_neg]
abbrev R := Prop × AV
def arI (op : BinOp) (a b : Int) : R := match op with
  | .add => (-9223372036854775808 ≤ a + b ∧ a + b ≤ 9223372036854775807, .i (a + b))
  | .sub => (-9223372036854775808 ≤ a - b ∧ a - b ≤ 9223372036854775807, .i (a - b))
  | .mul => (-9223372036854775808 ≤ a * b ∧ a * b ≤ 9223372036854775807, .i (a * b))
  | .quo => (0 ≤ a ∧ 0 < b ∧ a ≤ 9223372036854775807, .i (a / b))
  | .rem => (0 ≤ a ∧ 0 < b, .i (a % b))
  | .eql => (True, .b (decide (a = b)))
  | .neq => (True, .b (!decide (a = b)))
  | .lss => (True, .b (decide (a < b)))
  | .leq => (True, .b (decide (a ≤ b)))
  | .gtr => (True, .b (decide (b < a)))
  | .geq => (True, .b (decide (b ≤ a)))
  | .and => (0 ≤ a ∧ 0 ≤ b ∧ a ≤ 9223372036854775807 ∧ b ≤ 9223372036854775807, .i ((a.toNat &&& b.toNat : Nat) : Int))
  | _ => (False, .junk)
def arU {n : Nat} (mk : BitVec n → AV) (op : BinOp) (a b : BitVec n) : R := match op with
  | .add => (True, mk (a + b))
  | .sub => (True, mk (a - b))
  | .mul => (True, mk (a * b))
  | .quo => (b ≠ 0, mk (a / b))
  | .rem => (b ≠ 0, mk (a % b))
  | .and => (True, mk (a &&& b))
  | .or => (True, mk (a ||| b))
  | .xor => (True, mk (a ^^^ b))
  | .eql => (True, .b (decide (a = b)))
  | .neq => (True, .b (!decide (a = b)))
  | .lss => (True, .b (decide (a < b)))
  | .leq => (True, .b (decide (a ≤ b)))
  | .gtr => (True, .b (decide (b < a)))
  | .geq => (True, .b (decide (b ≤ a)))
  | _ => (False, .junk)
def shI (op : BinOp) (a n : Int) : R := match op with
  | .shl => (0 ≤ n ∧ n < 64 ∧ -9223372036854775808 ≤ a * 2 ^ n.toNat ∧ a * 2 ^ n.toNat ≤ 9223372036854775807, .i (a * 2 ^ n.toNat))
  | .shr => (0 ≤ n ∧ n < 64, .i (a / 2 ^ n.toNat))
  | _ => (False, .junk)
def shU {k : Nat} (mk : BitVec k → AV) (op : BinOp) (a : BitVec k) (n : Int) : R := match op with
  | .shl => (0 ≤ n, mk (a <<< n.toNat))
  | .shr => (0 ≤ n, mk (a >>> n.toNat))
  | _ => (False, .junk)
theorem arI_sound {P : Program} {w : World} (t : TypeId) (op : BinOp) (a b : Int) (h : (arI op a b).1) :
    ∃ v, (binOp op t (.int .i64 a) (.int .i64 b)).run P w = .ok v w ∧ ∀ c, G (arI op a b).2 c v := by
  cases op <;> simp only [arI] at h ⊢ <;> simp only [binOp, Op.intArith, Op.intDiv, Op.intCmp, Op.intBits, ne_eq, not_true_eq_false, if_false, Sem.run_pure, G]
  case add => exact ⟨_, rfl, fun _ => by rw [wrap_i64 h]⟩
  case sub => exact ⟨_, rfl, fun _ => by rw [wrap_i64 h]⟩
  case mul => exact ⟨_, rfl, fun _ => by rw [wrap_i64 h]⟩
  case quo =>
    rw [if_neg (by omega)]
    refine ⟨_, rfl, fun _ => ?_⟩
    have e : a.tdiv b = a / b := Int.tdiv_eq_ediv_of_nonneg h.1
    have h1 : 0 ≤ a / b := Int.ediv_nonneg h.1 (by omega)
    have h2 : a / b ≤ a := Int.ediv_le_self _ h.1
    rw [e, wrap_i64 (by omega)]
  case rem =>
    rw [if_neg (by omega)]
    exact ⟨_, rfl, fun _ => by rw [Int.tmod_eq_emod_of_nonneg h.1]⟩
  case and =>
    refine ⟨_, rfl, fun _ => ?_⟩
    obtain ⟨h1, h2, h3, h4⟩ := h
    obtain ⟨m, rfl⟩ := Int.eq_ofNat_of_zero_le h1
    obtain ⟨k, rfl⟩ := Int.eq_ofNat_of_zero_le h2
    have em : (BitVec.ofInt 64 (m : Int)).toNat = m := by rw [BitVec.ofInt_natCast, BitVec.toNat_ofNat]; omega
    have ek : (BitVec.ofInt 64 (k : Int)).toNat = k := by rw [BitVec.ofInt_natCast, BitVec.toNat_ofNat]; omega
    have hle : m &&& k ≤ m := Nat.and_le_left
    have e : (BitVec.ofInt IntKind.i64.bits (m : Int) &&& BitVec.ofInt IntKind.i64.bits (k : Int)).toNat = m &&& k := by
      rw [BitVec.toNat_and]; exact congr (congrArg _ em) ek
    rw [e, wrap_i64 (by omega)]
    simp
  all_goals exact ⟨_, rfl, fun _ => by first | rfl | (simp only [bne, beq_iff_eq, Value.bool.injEq]; first | rfl | (rw [Bool.eq_iff_iff]; simp) | (rw [Bool.eq_iff_iff]; simp; omega))⟩
theorem arU_sound {P : Program} {w : World} (t : TypeId) {k : IntKind} (hk : k.signed = false) (mk : BitVec k.bits → AV) (hmk : ∀ x c, G (mk x) c (.int k x.toNat)) (op : BinOp) (a b : BitVec k.bits) (h : (arU mk op a b).1) :
    ∃ v, (binOp op t (.int k a.toNat) (.int k b.toNat)).run P w = .ok v w ∧ ∀ c, G (arU mk op a b).2 c v := by
  have key : ∀ m : Int, ∀ x : BitVec k.bits, BitVec.ofInt k.bits m = x → ∀ c, G (mk x) c (.int k (k.wrap m)) := by
    intro m x e c; rw [wrap_u hk, e]; exact hmk x c
  cases op <;> simp only [arU] at h ⊢ <;> simp only [binOp, Op.intArith, Op.intDiv, Op.intCmp, Op.intBits, ne_eq, not_true_eq_false, if_false, Sem.run_pure, ofInt_toNat]
  case add => exact ⟨_, rfl, key _ _ (u_add a b)⟩
  case sub => exact ⟨_, rfl, key _ _ (u_sub a b)⟩
  case mul => exact ⟨_, rfl, key _ _ (u_mul a b)⟩
  case quo =>
    have hb : ¬ ((b.toNat : Int) = 0) := fun e => h (by apply BitVec.eq_of_toNat_eq; simpa using e)
    rw [if_neg hb]
    refine ⟨_, rfl, key _ _ ?_⟩
    rw [Int.tdiv_eq_ediv_of_nonneg (by omega), ← Int.natCast_ediv]
    apply BitVec.eq_of_toNat_eq
    rw [BitVec.ofInt_natCast, BitVec.toNat_ofNat, BitVec.toNat_udiv]
    exact Nat.mod_eq_of_lt (Nat.lt_of_le_of_lt (Nat.div_le_self _ _) a.isLt)
  case rem =>
    have hb : ¬ ((b.toNat : Int) = 0) := fun e => h (by apply BitVec.eq_of_toNat_eq; simpa using e)
    rw [if_neg hb]
    refine ⟨_, rfl, fun c => ?_⟩
    rw [Int.tmod_eq_emod_of_nonneg (by omega), ← Int.natCast_emod, ← BitVec.toNat_umod]
    exact hmk _ c
  case and => exact ⟨_, rfl, key _ _ (ofInt_toNat _)⟩
  case or => exact ⟨_, rfl, key _ _ (ofInt_toNat _)⟩
  case xor => exact ⟨_, rfl, key _ _ (ofInt_toNat _)⟩
  all_goals refine ⟨_, rfl, fun c => ?_⟩
  all_goals simp only [G, Value.bool.injEq]
  all_goals (rw [Bool.eq_iff_iff])
  all_goals (simp [BitVec.lt_def, BitVec.le_def, ← BitVec.toNat_inj] <;> omega)
theorem shI_sound {P : Program} {w : World} (t : TypeId) (op : BinOp) (yk : IntKind) (a n : Int) (h : (shI op a n).1) :
    ∃ v, (binOp op t (.int .i64 a) (.int yk n)).run P w = .ok v w ∧ ∀ c, G (shI op a n).2 c v := by
  cases op <;> simp only [shI] at h ⊢ <;> simp only [binOp, Op.shift]
  case shl =>
    rw [if_neg (by omega)]
    have e : min n.toNat IntKind.i64.bits = n.toNat := by simp only [IntKind.bits]; omega
    refine ⟨_, rfl, fun c => ?_⟩
    simp only [G]
    rw [e, wrap_i64 ⟨h.2.2.1, h.2.2.2⟩]
  case shr =>
    rw [if_neg (by omega)]
    have e : min n.toNat IntKind.i64.bits = n.toNat := by simp only [IntKind.bits]; omega
    refine ⟨_, rfl, fun c => ?_⟩
    simp only [G]
    rw [e, Int.fdiv_eq_ediv_of_nonneg _ (by have : (0 : Int) < 2 ^ n.toNat := Int.pow_pos (by omega); omega)]
theorem shU_sound {P : Program} {w : World} (t : TypeId) {k : IntKind} (hk : k.signed = false) (mk : BitVec k.bits → AV) (hmk : ∀ x c, G (mk x) c (.int k x.toNat)) (op : BinOp) (yk : IntKind) (a : BitVec k.bits) (n : Int) (h : (shU mk op a n).1) :
    ∃ v, (binOp op t (.int k a.toNat) (.int yk n)).run P w = .ok v w ∧ ∀ c, G (shU mk op a n).2 c v := by
  cases op <;> simp only [shU] at h ⊢ <;> simp only [binOp, Op.shift]
  case shl =>
    rw [if_neg (by omega)]
    refine ⟨_, rfl, fun c => ?_⟩
    have e : BitVec.ofInt k.bits ((a.toNat : Int) * 2 ^ min n.toNat k.bits) = a <<< n.toNat := by
      apply BitVec.eq_of_toNat_eq
      have e1 : (a.toNat : Int) * 2 ^ min n.toNat k.bits = ((a.toNat * 2 ^ min n.toNat k.bits : Nat) : Int) := by simp
      rw [e1, BitVec.ofInt_natCast, BitVec.toNat_ofNat, BitVec.toNat_shiftLeft, Nat.shiftLeft_eq]
      rcases Nat.le_total n.toNat k.bits with hle | hle
      · rw [Nat.min_eq_left hle]
      · rw [Nat.min_eq_right hle]
        obtain ⟨d, hd⟩ : ∃ d, n.toNat = k.bits + d := ⟨n.toNat - k.bits, by omega⟩
        rw [hd, Nat.pow_add, ← Nat.mul_assoc, Nat.mul_mod_left, Nat.mul_right_comm, Nat.mul_mod_left]
    rw [wrap_u hk, e]; exact hmk _ c
  case shr =>
    rw [if_neg (by omega)]
    refine ⟨_, rfl, fun c => ?_⟩
    have e : (a.toNat : Int).fdiv (2 ^ min n.toNat k.bits) = ((a >>> n.toNat).toNat : Int) := by
      have hp : (0 : Int) < 2 ^ min n.toNat k.bits := Int.pow_pos (by omega)
      rw [Int.fdiv_eq_ediv_of_nonneg _ (by omega), BitVec.toNat_ushiftRight, Nat.shiftRight_eq_div_pow]
      have e1 : (2 : Int) ^ min n.toNat k.bits = ((2 ^ min n.toNat k.bits : Nat) : Int) := by simp
      rw [e1, ← Int.natCast_ediv]
      congr 1
      rcases Nat.le_total n.toNat k.bits with hle | hle
      · rw [Nat.min_eq_left hle]
      · rw [Nat.min_eq_right hle, Nat.div_eq_of_lt a.isLt, Nat.div_eq_of_lt (Nat.lt_of_lt_of_le a.isLt (Nat.pow_le_pow_right (by omega) hle))]
    rw [e]; exact hmk _ c
end Go.Lv
namespace Go.Lv
open Go
inductive TD where
  | i64 | i32 | u8 | u16 | u32 | u64 | bool | str | ptr | fn | ifc
  | sl (e : TypeId) | arr (n : Nat) (e : TypeId) | st (fs : List (Nat × TypeId)) | oth
structure TI where
  d : TD
  size : Nat
  bytes : Nat
  zero : List AV
  fl : Option (List Bool)
  zok : Bool
def ofC1 : Value → AV
  | .int .i64 n => .i n
  | .int .u8 n => if 0 ≤ n ∧ n < 256 then .u8 (BitVec.ofInt 8 n) else .junk
  | .int .u16 n => if 0 ≤ n ∧ n < 65536 then .u16 (BitVec.ofInt 16 n) else .junk
  | .int .u32 n => if 0 ≤ n ∧ n < 4294967296 then .u32 (BitVec.ofInt 32 n) else .junk
  | .int .u64 n => if 0 ≤ n ∧ n < 18446744073709551616 then .u64 (BitVec.ofInt 64 n) else .junk
  | .bool x => .b x
  | .string x => .s x
  | .pointer none => .nilp
  | .slice none 0 0 => .nils
  | .nilFunc => .nilfn
  | .nilIface => .nilif
  | _ => .junk
def tdOf : Option TypeDesc → TD
  | some (.int .i64) => .i64
  | some (.int .i32) => .i32
  | some (.int .u8) => .u8
  | some (.int .u16) => .u16
  | some (.int .u32) => .u32
  | some (.int .u64) => .u64
  | some .bool => .bool
  | some .string => .str
  | some (.pointer _) => .ptr
  | some (.func _ _ _) => .fn
  | some (.interface _) => .ifc
  | some (.slice e) => .sl e
  | some (.array n e) => .arr n e
  | some (.struct fs) => .st (fs.toList.map fun f => (f.offset, f.type))
  | _ => .oth
def oneT (P : Program) (t : TypeId) : Option Bool := if P.cellsOf t == 1 then (match P.underlying t with | some (.int _) => some false | some .bool => some true | _ => none) else none
def flatFs (P : Program) : List Field → Nat → Option (List Bool)
  | [], _ => some []
  | f :: fs, k => if f.name != "_" && f.offset == k then match oneT P f.type, flatFs P fs (k + 1) with
    | some b, some r => some (b :: r)
    | _, _ => none else none
def flat (P : Program) (t : TypeId) : Option (List Bool) :=
  if P.stoodInHeld t || P.eqGuardType P.depth t then none else
  match P.underlying t with
  | some (.array n e) => (oneT P e).map (List.replicate n)
  | some (.struct fs) => flatFs P fs.toList 0
  | _ => none
def tiOf (P : Program) (t : TypeId) : TI :=
  match P.info? t with
  | some i => ⟨tdOf (P.underlying t), i.size, i.bytes, match i.zero with | some v => v.cells.toList.map ofC1 | none => [], flat P t, match i.zero with | some v => v.cells.toList.all (·.oneCell') && v.cells.size == i.size | none => false⟩
  | none => ⟨.oth, 0, 0, [], none, false⟩
def TD.isAgg : TD → Bool
  | .arr _ _ => true
  | .st _ => true
  | _ => false
def TD.ok : TD → Bool
  | .oth => false
  | _ => true
section
variable {P : Program} {w : World} {t : TypeId}
theorem G_ofC1 (v : Value) (c : Cx) : G (ofC1 v) c v := by
  unfold ofC1
  split <;> try (simp only [G])
  all_goals
    rename_i n
    split
    · rename_i h
      simp only [G]
      congr 1
      obtain ⟨m, rfl⟩ := Int.eq_ofNat_of_zero_le h.1
      rw [BitVec.ofInt_natCast, BitVec.toNat_ofNat]
      omega
    · simp only [G]
theorem ti_info (h : (tiOf P t).d ≠ .oth) : ∃ i, P.info? t = some i ∧ (tiOf P t).size = i.size ∧ (tiOf P t).bytes = i.bytes ∧ (tiOf P t).d = tdOf (P.underlying t) ∧
    (tiOf P t).zero = (match i.zero with | some v => v.cells.toList.map ofC1 | none => []) := by
  unfold tiOf at *
  cases hi : P.info? t with
  | none => simp [hi] at h
  | some i => exact ⟨i, rfl, by simp, by simp, by simp, by simp⟩
theorem run_sizeOf (h : (tiOf P t).d ≠ .oth) : (sizeOf t).run P w = .ok (tiOf P t).size w := by
  obtain ⟨i, h1, h2, _⟩ := ti_info h
  simp [sizeOf, typeInfo, h1, h2]
theorem und_some (h : (tiOf P t).d ≠ .oth) : ∃ d, P.underlying t = some d ∧ tdOf (some d) = (tiOf P t).d := by
  obtain ⟨i, _, _, _, h4, _⟩ := ti_info h
  rw [h4] at h ⊢
  cases hd : P.underlying t with
  | none => rw [hd] at h; exact absurd rfl h
  | some d => exact ⟨d, rfl, rfl⟩
theorem und_arr {n : Nat} {e : TypeId} (h : (tiOf P t).d = .arr n e) : P.underlying t = some (.array n e) := by
  obtain ⟨d, h1, h2⟩ := und_some (P := P) (t := t) (by rw [h]; simp)
  rw [h] at h2; rw [h1]; unfold tdOf at h2
  split at h2 <;> simp_all
theorem und_sl {e : TypeId} (h : (tiOf P t).d = .sl e) : P.underlying t = some (.slice e) := by
  obtain ⟨d, h1, h2⟩ := und_some (P := P) (t := t) (by rw [h]; simp)
  rw [h] at h2; rw [h1]; unfold tdOf at h2
  split at h2 <;> simp_all
theorem und_st {fs : List (Nat × TypeId)} (h : (tiOf P t).d = .st fs) : ∃ fields, P.underlying t = some (.struct fields) ∧ fields.toList.map (fun f => (f.offset, f.type)) = fs := by
  obtain ⟨d, h1, h2⟩ := und_some (P := P) (t := t) (by rw [h]; simp)
  rw [h] at h2; rw [h1]; unfold tdOf at h2
  split at h2 <;> simp_all
theorem und_str (h : (tiOf P t).d = .str) : P.underlying t = some .string := by
  obtain ⟨d, h1, h2⟩ := und_some (P := P) (t := t) (by rw [h]; simp)
  rw [h] at h2; rw [h1]; unfold tdOf at h2
  split at h2 <;> simp_all
def TD.kind : TD → Option IntKind
  | .i64 => some .i64 | .i32 => some .i32 | .u8 => some .u8 | .u16 => some .u16 | .u32 => some .u32 | .u64 => some .u64
  | _ => none
theorem und_int {k : IntKind} (h : (tiOf P t).d.kind = some k) : P.underlying t = some (.int k) := by
  obtain ⟨d, h1, h2⟩ := und_some (P := P) (t := t) (by intro e; rw [e] at h; cases h)
  rw [← h2] at h; rw [h1]; unfold tdOf at h
  split at h <;> simp_all [TD.kind]
theorem tdOf_agg (d : TypeDesc) : (tdOf (some d)).isAgg = (match d with | .struct _ | .array _ _ => true | _ => false) := by
  cases d <;> first | rfl | (rename_i k; cases k <;> rfl)
theorem run_isAgg (h : (tiOf P t).d ≠ .oth) : (isAgg t).run P w = .ok (tiOf P t).d.isAgg w := by
  obtain ⟨d, h1, h2⟩ := und_some h
  rw [← h2, tdOf_agg]
  simp only [isAgg, underlying, Sem.run_bind, run_program, Result.andThen_ok, h1, Sem.run_pure]
  split <;> simp_all
theorem run_underlying {d : TypeDesc} (h : P.underlying t = some d) : (underlying t).run P w = .ok d w := by
  simp [underlying, h]
end
theorem addr_add (b o k : Nat) : (⟨b, o, none⟩ : Addr).add k = ⟨b, o + k, none⟩ := by
  unfold Addr.add; split
  · subst_vars; rfl
  · rfl
def HeapOK (c : Cx) (H : List (Nat × Seg)) (lk : List (Nat × Seg) → Nat → Option Seg) : Prop :=
  ∀ id seg, lk H id = some seg → (c.ρ id = some none ∧ seg.cells = []) ∨ ∃ (b : Nat) (cells : Array Value) (T : TypeId), c.ρ id = some (some b) ∧ c.w.heap[b]? = some (Obj.cells cells T (0, 0)) ∧ GC seg.cells c b 0
def lkd {α : Type} (d : α) : List (Nat × α) → Nat → α
  | [], _ => d
  | (k, v) :: r, t => bif Nat.beq k t then v else lkd d r t
def lkf {α : Type} : List (Nat × α) → Nat → Option α
  | [], _ => none
  | (k, v) :: r, t => bif Nat.beq k t then some v else lkf r t
def ers {α : Type} : List (Nat × α) → Nat → List (Nat × α)
  | [], _ => []
  | (k, v) :: r, t => bif Nat.beq k t then ers r t else (k, v) :: ers r t
theorem cell?_of {w : World} {b : Nat} {cells : Array Value} {T : TypeId} {f : Nat × Nat} (h : w.heap[b]? = some (Obj.cells cells T f)) (o : Nat) : w.cell? ⟨b, o, none⟩ = cells[o]? := by
  simp [World.cell?, h]
theorem run_loadVals {P : Program} {w : World} {b o : Nat} {vs : List Value} (h : ∀ (j : Nat) (v : Value), vs[j]? = some v → w.cell? ⟨b, o + j, none⟩ = some v) :
    (loadCells ⟨b, o, none⟩ vs.length).run P w = .ok vs.toArray w := by
  have := run_loadCells_list (P := P) (w := w) (a := ⟨b, o, none⟩) (cs := vs) (fun j v hj => by rw [addr_add]; exact h j v hj)
  simpa using this
theorem loadVar_cells {P : Program} {t : TypeId} {c : Cx} {b o : Nat} {xs : List AV} (ht : (tiOf P t).d ≠ .oth) (h : GC xs c b o) :
    ((tiOf P t).d.isAgg = true → (tiOf P t).size ≤ xs.length → ∃ v, (loadVar t ⟨b, o, none⟩).run P c.w = .ok v c.w ∧ G (.agg (xs.take (tiOf P t).size)) c v) ∧
    ((tiOf P t).d.isAgg = false → 0 < xs.length → ∃ v, (loadVar t ⟨b, o, none⟩).run P c.w = .ok v c.w ∧ G (xs.getD 0 .junk) c v) := by
  constructor
  · intro ha hs
    obtain ⟨vs, h1, h2, h3, h4⟩ := GC_vals _ (GC_take h (tiOf P t).size)
    have hl : vs.length = (tiOf P t).size := by rw [h1, List.length_take]; omega
    refine ⟨.agg vs.toArray, ?_, ?_⟩
    · simp only [loadVar, Sem.run_bind, run_isAgg ht, Result.andThen_ok, ha, if_true, run_sizeOf ht]
      rw [← hl, run_loadVals h2]; rfl
    · simp only [G]; exact ⟨_, rfl, by simpa using h3, by simpa using h4⟩
  · intro ha hs
    cases xs with
    | nil => simp at hs
    | cons x xs =>
      simp only [GC] at h
      obtain ⟨⟨u, h1, h2, h3⟩, _⟩ := h
      refine ⟨u, ?_, by simpa using h3⟩
      simp only [loadVar, Sem.run_bind, run_isAgg ht, Result.andThen_ok, ha, Bool.false_eq_true, if_false, run_load, h1]
def rLoad (T : TypeId → TI) (H : List (Nat × Seg)) (t : TypeId) (p : AV) : R :=
  match p with
  | .ptr id off => match lkf H id with
    | some seg => bif (T t).d.isAgg then ((T t).d.ok = true ∧ off + (T t).size ≤ seg.cells.length ∧ 0 < (T t).size, .agg ((seg.cells.drop off).take (T t).size))
        else ((T t).d.ok = true ∧ off < seg.cells.length, seg.cells.getD off .junk)
    | none => (False, .junk)
  | .rop _ cs => bif (T t).d.isAgg then ((T t).d.ok = true ∧ (T t).size ≤ cs.length, .agg (cs.take (T t).size)) else ((T t).d.ok = true ∧ 0 < cs.length, cs.getD 0 .junk)
  | _ => (False, .junk)
theorem ok_ne {d : TD} (h : d.ok = true) : d ≠ .oth := by intro e; rw [e] at h; cases h
theorem rLoad_sound {P : Program} {H : List (Nat × Seg)} {t : TypeId} {p : AV} {c : Cx} {v : Value} (hH : HeapOK c H lkf) (hp : G p c v) (h : (rLoad (tiOf P) H t p).1) :
    ∃ u, (Instr.loadAt t v).run P c.w = .ok u c.w ∧ G (rLoad (tiOf P) H t p).2 c u := by
  cases p <;> simp only [rLoad] at h ⊢
  case ptr id off =>
    simp only [G] at hp
    obtain ⟨b, hb, rfl⟩ := hp
    cases hs : lkf H id with
    | none => simp [hs] at h
    | some seg =>
      simp only [hs] at h ⊢
      simp only [Instr.loadAt, Instr.sureAddr, Sem.run_bind, Sem.run_pure, Result.andThen_ok]
      rcases hH id seg hs with ⟨h1, h2⟩ | ⟨b', cells, T, h1, h2, h3⟩
      · rw [h1] at hb; cases hb
      · rw [h1] at hb; cases hb
        cases ha : (tiOf P t).d.isAgg with
        | true =>
          simp only [ha, cond_true] at h ⊢
          have hd := GC_drop h3 off
          rw [Nat.zero_add] at hd
          exact (loadVar_cells (ok_ne h.1) hd).1 ha (by rw [List.length_drop]; omega)
        | false =>
          simp only [ha, cond_false] at h ⊢
          have hd := GC_drop h3 off
          rw [Nat.zero_add] at hd
          obtain ⟨u, k1, k2⟩ := (loadVar_cells (ok_ne h.1) hd).2 ha (by rw [List.length_drop]; omega)
          refine ⟨u, k1, ?_⟩
          rwa [List.getD_eq_getElem?_getD, List.getElem?_drop, Nat.add_zero, ← List.getD_eq_getElem?_getD] at k2
  case rop fr cs =>
    simp only [G] at hp
    obtain ⟨b, off, rfl, hN, hF, hg⟩ := hp
    simp only [Instr.loadAt, Instr.sureAddr, Sem.run_bind, Sem.run_pure, Result.andThen_ok]
    cases ha : (tiOf P t).d.isAgg with
    | true =>
      simp only [ha, cond_true] at h ⊢
      obtain ⟨u, k1, k2⟩ := (loadVar_cells (ok_ne h.1) hg).1 ha h.2
      exact ⟨u, k1, G_mono _ (ro_le c) k2⟩
    | false =>
      simp only [ha, cond_false] at h ⊢
      obtain ⟨u, k1, k2⟩ := (loadVar_cells (ok_ne h.1) hg).2 ha h.2
      exact ⟨u, k1, G_mono _ (ro_le c) k2⟩
end Go.Lv
namespace Go.Lv
open Go
def idx : AV → Option Int
  | .i n => some n
  | .u8 x => some x.toNat
  | .u16 x => some x.toNat
  | .u32 x => some x.toNat
  | .u64 x => some x.toNat
  | _ => none
theorem idx_sound {x : AV} {c : Cx} {v : Value} {k : Int} (h : G x c v) (hx : idx x = some k) : ∃ kd, v = .int kd k := by
  cases x <;> simp [idx] at hx <;> subst hx <;> simp only [G] at h <;> exact ⟨_, h⟩
def rFa (T : TypeId → TI) (s : TypeId) (x : AV) (f : Nat) : R :=
  match (T s).d with
  | .st fs => match fs[f]? with
    | some (off, ft) => match x with
      | .ptr id o => ((T ft).d.ok = true ∧ 0 < (T ft).size, .ptr id (o + off))
      | .rop fr cs => ((T ft).d.ok = true ∧ 0 < (T ft).size, .rop fr (cs.drop off))
      | _ => (False, .junk)
    | none => (False, .junk)
  | _ => (False, .junk)
theorem rFa_sound {P : Program} {s : TypeId} {x : AV} {f : Nat} {c : Cx} {v : Value} (hx : G x c v) (h : (rFa (tiOf P) s x f).1) :
    ∃ u, (Instr.fieldAt s v f).run P c.w = .ok u c.w ∧ G (rFa (tiOf P) s x f).2 c u := by
  unfold rFa at h ⊢
  cases hd : (tiOf P s).d <;> simp only [hd] at h ⊢
  rename_i fs
  obtain ⟨fields, h1, h2⟩ := und_st hd
  cases hf : fs[f]? with
  | none => simp [hf] at h
  | some p =>
    obtain ⟨off, ft⟩ := p
    simp only [hf] at h ⊢
    have hf' : ∃ fd : Field, fields[f]? = some fd ∧ fd.offset = off ∧ fd.type = ft := by
      rw [← h2, List.getElem?_map] at hf
      cases hq : fields.toList[f]? with
      | none => simp [hq] at hf
      | some fd =>
        simp only [hq, Option.map_some, Option.some.injEq, Prod.mk.injEq] at hf
        exact ⟨fd, by simpa using hq, hf.1, hf.2⟩
    obtain ⟨fd, k1, rfl, rfl⟩ := hf'
    cases x <;> simp only at h ⊢
    case ptr id o =>
      simp only [G] at hx ⊢
      obtain ⟨b, hb, rfl⟩ := hx
      refine ⟨_, ?_, b, hb, rfl⟩
      have hs := run_sizeOf (w := c.w) (ok_ne h.1)
      simp only [Instr.fieldAt, Sem.run_bind, run_underlying h1, Result.andThen_ok, k1, Instr.sureAddr, Sem.run_pure, fieldPlace, hs]
      rw [if_neg (by omega)]
      simp [addr_add]
    case rop fr cs =>
      simp only [G] at hx ⊢
      obtain ⟨b, o, rfl, hN, hF, hg⟩ := hx
      refine ⟨_, ?_, b, o + fd.offset, rfl, hN, hF, GC_drop hg _⟩
      have hs := run_sizeOf (w := c.w) (ok_ne h.1)
      simp only [Instr.fieldAt, Sem.run_bind, run_underlying h1, Result.andThen_ok, k1, Instr.sureAddr, Sem.run_pure, fieldPlace, hs]
      rw [if_neg (by omega)]
      simp [addr_add]
def rIaK (T : TypeId → TI) (t : TypeId) (x : AV) (k : Int) : R :=
  match (T t).d with
  | .arr n e => match x with
    | .ptr id off => ((T e).d.ok = true ∧ 0 ≤ k ∧ k < (n : Int), .ptr id (off + k.toNat * (T e).size))
    | .rop fr cs => ((T e).d.ok = true ∧ 0 ≤ k ∧ k < (n : Int), .rop fr (cs.drop (k.toNat * (T e).size)))
    | _ => (False, .junk)
  | .sl e => match x with
    | .sl id off n _ => ((T e).d.ok = true ∧ 0 ≤ k ∧ k < (n : Int), .ptr id (off + k.toNat * (T e).size))
    | .ros fr n cs => ((T e).d.ok = true ∧ 0 ≤ k ∧ k < (n : Int), .rop fr (cs.drop (k.toNat * (T e).size)))
    | _ => (False, .junk)
  | _ => (False, .junk)
def rIa (T : TypeId → TI) (t : TypeId) (x i : AV) : R :=
  match i with
  | .i k => rIaK T t x k
  | .u8 y => rIaK T t x y.toNat
  | .u16 y => rIaK T t x y.toNat
  | .u32 y => rIaK T t x y.toNat
  | .u64 y => rIaK T t x y.toNat
  | _ => (False, .junk)
theorem rIaK_sound {P : Program} {t : TypeId} {x : AV} {kd : IntKind} {k : Int} {c : Cx} {v : Value} (hx : G x c v) (h : (rIaK (tiOf P) t x k).1) :
    ∃ u, (Instr.indexAt t v (.int kd k)).run P c.w = .ok u c.w ∧ G (rIaK (tiOf P) t x k).2 c u := by
  unfold rIaK at h ⊢
  cases hd : (tiOf P t).d <;> simp only [hd] at h ⊢
  case sl e =>
    have hu := und_sl hd
    cases x <;> simp only at h ⊢
    case sl id off n z =>
      simp only [G] at hx ⊢
      have hs := run_sizeOf (w := c.w) (ok_ne h.1)
      rcases hx with ⟨_, h2, _⟩ | ⟨b, o, cap, cells, T, fz, h1, h2, h3, h4, h5, rfl⟩
      · subst h2; have := h.2; omega
      · have ho : o = off := by rcases h4 with h4 | h4 <;> omega
        subst ho
        refine ⟨_, ?_, b, h1, rfl⟩
        simp only [Instr.indexAt, Sem.run_bind, asIntOf, Sem.run_pure, Result.andThen_ok, run_underlying hu]
        simp [hs, h.2, addr_add]
    case ros fr n cs =>
      simp only [G] at hx ⊢
      have hs := run_sizeOf (w := c.w) (ok_ne h.1)
      rcases hx with ⟨h2, _, _⟩ | ⟨b, o, cap, rfl, h2, h3, h4, h5⟩
      · subst h2; have := h.2; omega
      · refine ⟨_, ?_, b, o + k.toNat * (tiOf P e).size, rfl, h3, h4, GC_drop h5 _⟩
        simp only [Instr.indexAt, Sem.run_bind, asIntOf, Sem.run_pure, Result.andThen_ok, run_underlying hu]
        simp [hs, h.2, addr_add]
  case arr n e =>
    have hu := und_arr hd
    cases x <;> simp only at h ⊢
    case ptr id off =>
      simp only [G] at hx ⊢
      obtain ⟨b, hb, rfl⟩ := hx
      have hs := run_sizeOf (w := c.w) (ok_ne h.1)
      refine ⟨_, ?_, b, hb, rfl⟩
      simp only [Instr.indexAt, Sem.run_bind, asIntOf, Sem.run_pure, Result.andThen_ok, run_underlying hu, Instr.sureAddr]
      simp [hs, h.2, addr_add]
    case rop fr cs =>
      simp only [G] at hx ⊢
      obtain ⟨b, o, rfl, hN, hF, hg⟩ := hx
      have hs := run_sizeOf (w := c.w) (ok_ne h.1)
      refine ⟨_, ?_, b, o + k.toNat * (tiOf P e).size, rfl, hN, hF, GC_drop hg _⟩
      simp only [Instr.indexAt, Sem.run_bind, asIntOf, Sem.run_pure, Result.andThen_ok, run_underlying hu, Instr.sureAddr]
      simp [hs, h.2, addr_add]
theorem rIa_sound {P : Program} {t : TypeId} {x i : AV} {c : Cx} {v vi : Value} (hx : G x c v) (hi : G i c vi) (h : (rIa (tiOf P) t x i).1) :
    ∃ u, (Instr.indexAt t v vi).run P c.w = .ok u c.w ∧ G (rIa (tiOf P) t x i).2 c u := by
  cases i <;> simp only [rIa] at h ⊢ <;> simp only [G] at hi <;> subst hi <;> exact rIaK_sound hx h
def rPart (T : TypeId → TI) (t : TypeId) (cs : List AV) (off : Nat) : R :=
  bif (T t).d.isAgg then ((T t).d.ok = true ∧ off + (T t).size ≤ cs.length, .agg ((cs.drop off).take (T t).size))
  else ((T t).d.ok = true ∧ off < cs.length, cs.getD off .junk)
theorem GL_drop_take {c : Cx} {xs : List AV} {vs : List Value} (h : GL xs c vs) (o n : Nat) : GL ((xs.drop o).take n) c ((vs.drop o).take n) := by
  rw [GL_iff] at h ⊢
  obtain ⟨h1, h2⟩ := h
  refine ⟨by simp [h1], fun j x v hx hv => ?_⟩
  rw [List.getElem?_take, List.getElem?_drop] at hx hv
  split at hx
  · rename_i hj; rw [if_pos hj] at hv; exact h2 _ _ _ hx hv
  · cases hx
theorem rPart_sound {P : Program} {t : TypeId} {cs : List AV} {off : Nat} {c : Cx} {vs : Array Value} (h0 : ∀ u ∈ vs.toList, u.oneCell' = true) (hx : GL cs c vs.toList) (h : (rPart (tiOf P) t cs off).1) :
    ∃ u, (part t vs off).run P c.w = .ok u c.w ∧ G (rPart (tiOf P) t cs off).2 c u := by
  unfold rPart at h ⊢
  have hl := GL_length hx
  cases ha : (tiOf P t).d.isAgg with
  | true =>
    simp only [ha, cond_true] at h ⊢
    simp only [part, Sem.run_bind, run_isAgg (ok_ne h.1), Result.andThen_ok, ha, if_true, run_sizeOf (ok_ne h.1), Sem.run_pure, G]
    refine ⟨_, rfl, _, rfl, ?_, ?_⟩
    · intro u hu
      simp only [Array.toList_extract, List.extract_eq_take_drop] at hu
      exact h0 u (List.mem_of_mem_drop (List.mem_of_mem_take hu))
    · simp only [Array.toList_extract, List.extract_eq_take_drop, Nat.add_sub_cancel_left]
      exact GL_drop_take hx _ _
  | false =>
    simp only [ha, cond_false] at h ⊢
    have hlt : off < vs.size := by have := h.2; simp at hl; omega
    simp only [part, Sem.run_bind, run_isAgg (ok_ne h.1), Result.andThen_ok, ha, Bool.false_eq_true, if_false, Array.getElem?_eq_getElem hlt, Sem.run_pure]
    refine ⟨_, rfl, ?_⟩
    rw [List.getD_eq_getElem?_getD, List.getElem?_eq_getElem h.2, Option.getD_some]
    exact ((GL_iff _).1 hx).2 off _ _ (List.getElem?_eq_getElem h.2) (by simp [hlt])
def rFld (T : TypeId → TI) (t : TypeId) (x : AV) (f : Nat) : R :=
  match (T t).d with
  | .st fs => match fs[f]? with
    | some (off, ft) => match x with
      | .agg cs => rPart T ft cs off
      | _ => (False, .junk)
    | none => (False, .junk)
  | _ => (False, .junk)
theorem rFld_sound {P : Program} {t : TypeId} {x : AV} {f : Nat} {c : Cx} {v : Value} (hx : G x c v) (h : (rFld (tiOf P) t x f).1) :
    ∃ u, (Instr.field t v f).run P c.w = .ok u c.w ∧ G (rFld (tiOf P) t x f).2 c u := by
  unfold rFld at h ⊢
  cases hd : (tiOf P t).d <;> simp only [hd] at h ⊢
  rename_i fs
  obtain ⟨fields, h1, h2⟩ := und_st hd
  cases hf : fs[f]? with
  | none => simp [hf] at h
  | some p =>
    obtain ⟨off, ft⟩ := p
    simp only [hf] at h ⊢
    have hf' : ∃ fd : Field, fields[f]? = some fd ∧ fd.offset = off ∧ fd.type = ft := by
      rw [← h2, List.getElem?_map] at hf
      cases hq : fields.toList[f]? with
      | none => simp [hq] at hf
      | some fd =>
        simp only [hq, Option.map_some, Option.some.injEq, Prod.mk.injEq] at hf
        exact ⟨fd, by simpa using hq, hf.1, hf.2⟩
    obtain ⟨fd, k1, rfl, rfl⟩ := hf'
    cases x <;> simp only at h ⊢
    rename_i cs
    simp only [G] at hx
    obtain ⟨vs, rfl, h3, h4⟩ := hx
    obtain ⟨u, k2, k3⟩ := rPart_sound h3 h4 h
    refine ⟨u, ?_, k3⟩
    simp only [Instr.field, Sem.run_bind, run_underlying h1, Result.andThen_ok, k1, asAgg, Sem.run_pure, k2]
def rIxv (T : TypeId → TI) (t : TypeId) (x i : AV) : R :=
  match (T t).d with
  | .arr n e => match x with
    | .agg cs => match idx i with
      | some k => ((T e).d.ok = true ∧ 0 ≤ k ∧ k < (n : Int) ∧ (rPart T e cs (k.toNat * (T e).size)).1, (rPart T e cs (k.toNat * (T e).size)).2)
      | none => (False, .junk)
    | _ => (False, .junk)
  | _ => (False, .junk)
theorem rIxv_sound {P : Program} {t : TypeId} {x i : AV} {c : Cx} {v vi : Value} (hx : G x c v) (hi : G i c vi) (h : (rIxv (tiOf P) t x i).1) :
    ∃ u, (Instr.index t v vi).run P c.w = .ok u c.w ∧ G (rIxv (tiOf P) t x i).2 c u := by
  unfold rIxv at h ⊢
  cases hd : (tiOf P t).d <;> simp only [hd] at h ⊢
  rename_i n e
  have hu := und_arr hd
  cases x <;> simp only at h ⊢
  rename_i cs
  cases hk : idx i with
  | none => simp [hk] at h
  | some k =>
    simp only [hk] at h ⊢
    obtain ⟨kd, rfl⟩ := idx_sound hi hk
    simp only [G] at hx
    obtain ⟨vs, rfl, h3, h4⟩ := hx
    obtain ⟨u, k2, k3⟩ := rPart_sound h3 h4 h.2.2.2
    refine ⟨u, ?_, k3⟩
    have hs := run_sizeOf (w := c.w) (ok_ne h.1)
    simp only [Instr.index, Sem.run_bind, asIntOf, Sem.run_pure, Result.andThen_ok, run_underlying hu]
    rw [Sem.run_ite, if_pos ⟨h.2.1, h.2.2.1⟩]
    simp only [Sem.run_bind, hs, Result.andThen_ok, k2]
def rExt (x : AV) (n : Nat) : R := match x with
  | .tup vs => (n < vs.length, vs.getD n .junk)
  | _ => (False, .junk)
theorem rExt_sound {P : Program} {x : AV} {n : Nat} {c : Cx} {v : Value} (hx : G x c v) (h : (rExt x n).1) :
    ∃ u, (Instr.extract v n).run P c.w = .ok u c.w ∧ G (rExt x n).2 c u := by
  unfold rExt at h ⊢
  cases x <;> simp only at h ⊢
  rename_i cs
  simp only [G] at hx
  obtain ⟨vs, rfl, h4⟩ := hx
  have hl := GL_length h4
  have hlt : n < vs.size := by simp at hl; omega
  simp only [Instr.extract, Array.getElem?_eq_getElem hlt, Sem.run_pure]
  refine ⟨_, rfl, ?_⟩
  rw [List.getD_eq_getElem?_getD, List.getElem?_eq_getElem h, Option.getD_some]
  exact ((GL_iff _).1 h4).2 n _ _ (List.getElem?_eq_getElem h) (by simp [hlt])
def asB : AV → Option Bool
  | .b p => some p
  | _ => none
def pickv (x : Bool) (y z : AV) : AV := match asB y, asB z with
  | some p, some q => .b (bif x then p else q)
  | _, _ => bif x then y else z
def rPick (x y z : AV) : R := match x with
  | .b p => (True, pickv p y z)
  | _ => (False, .junk)
theorem asB_some {x : AV} {p : Bool} (h : asB x = some p) : x = .b p := by cases x <;> simp [asB] at h; rw [h]
theorem pickv_sound {p : Bool} {y z : AV} {c : Cx} {vy vz : Value} (hy : G y c vy) (hz : G z c vz) : G (pickv p y z) c (if p then vy else vz) := by
  unfold pickv
  split
  · rename_i a b ha hb
    rw [asB_some ha] at hy; rw [asB_some hb] at hz
    simp only [G] at hy hz ⊢
    subst hy hz
    cases p <;> rfl
  · cases p
    · exact hz
    · exact hy
def rNc (x : AV) : R := match x with
  | .ptr _ _ => (True, x)
  | .rop _ _ => (True, x)
  | .fn (.func _) _ _ => (True, x)
  | _ => (False, .junk)
def optI : Option AV → Int → Option Int
  | none, d => some d
  | some x, _ => idx x
def rSlc (T : TypeId → TI) (t : TypeId) (x : AV) (lo hi mx : Option AV) : R :=
  match (T t).d with
  | .arr n e => bif mx.isSome && hi.isNone then (False, .junk) else match optI lo 0, optI hi n, optI mx n, x with
    | some l, some h, some m, .ptr id off => ((T e).d.ok = true ∧ 0 ≤ l ∧ l ≤ h ∧ h ≤ m ∧ m ≤ (n : Int), .sl id (off + l.toNat * (T e).size) (h.toNat - l.toNat) (T e).size)
    | some l, some h, some m, .rop fr cs => ((T e).d.ok = true ∧ 0 ≤ l ∧ l ≤ h ∧ h ≤ m ∧ m ≤ (n : Int) ∧ n * (T e).size ≤ cs.length, .ros fr (h.toNat - l.toNat) ((cs.drop (l.toNat * (T e).size)).take ((h.toNat - l.toNat) * (T e).size)))
    | _, _, _, _ => (False, .junk)
  | .sl e => match x with
    | .sl id off n z => match optI lo 0, optI hi n, mx with
      | some l, some h, none => ((T e).d.ok = true ∧ z = (T e).size ∧ 0 ≤ l ∧ l ≤ h ∧ h ≤ (n : Int), .sl id (off + l.toNat * z) (h.toNat - l.toNat) z)
      | _, _, _ => (False, .junk)
    | .ros fr n cs => match optI lo 0, optI hi n, mx with
      | some l, some h, none => ((T e).d.ok = true ∧ 0 ≤ l ∧ l ≤ h ∧ h ≤ (n : Int), .ros fr (h.toNat - l.toNat) ((cs.drop (l.toNat * (T e).size)).take ((h.toNat - l.toNat) * (T e).size)))
      | _, _, _ => (False, .junk)
    | .nils => match optI lo 0, optI hi 0, mx with
      | some l, some h, none => ((T e).d.ok = true ∧ l = 0 ∧ h = 0, .nils)
      | _, _, _ => (False, .junk)
    | _ => (False, .junk)
  | _ => (False, .junk)
theorem sliceBound_ok {P : Program} {w : World} {kd : IntKind} {k : Int} {y : Nat} {code : BoundsCode} (h0 : 0 ≤ k) (h1 : k ≤ (y : Int)) : (Instr.sliceBound (.int kd k) y code).run P w = .ok k.toNat w := by
  simp only [Instr.sliceBound, Sem.run_bind, asIntOf, Sem.run_pure, Result.andThen_ok]
  rw [Sem.run_ite, if_pos ⟨h0, h1⟩, Sem.run_pure]
theorem optI_sound {x : Option AV} {d k : Int} {c : Cx} {v : Option Value} (h : optI x d = some k) (hv : ∀ a, x = some a → ∃ u, v = some u ∧ G a c u) (hn : x = none → v = none) :
    (v = none ∧ k = d) ∨ ∃ kd, v = some (.int kd k) := by
  cases x with
  | none => simp [optI] at h; exact .inl ⟨hn rfl, h.symm⟩
  | some a =>
    obtain ⟨u, rfl, hu⟩ := hv a rfl
    obtain ⟨kd, rfl⟩ := idx_sound hu h
    exact .inr ⟨kd, rfl⟩
theorem sliceBounds_ok {P : Program} {w : World} {isS : Bool} {len cap : Nat} {lo hi mx : Option Value} {l h m : Int}
    (hl : (lo = none ∧ l = 0) ∨ ∃ kd, lo = some (.int kd l)) (hh : (hi = none ∧ h = (len : Int) ∧ mx = none) ∨ ∃ kd, hi = some (.int kd h)) (hm : (mx = none ∧ m = (cap : Int)) ∨ ∃ kd, mx = some (.int kd m))
    (h0 : 0 ≤ l) (h1 : l ≤ h) (h2 : h ≤ m) (h3 : m ≤ (cap : Int)) :
    (Instr.sliceBounds isS len cap lo hi mx).run P w = .ok (l.toNat, h.toNat, m.toNat) w := by
  unfold Instr.sliceBounds
  rcases hm with ⟨rfl, rfl⟩ | ⟨kd, rfl⟩
  · rcases hh with ⟨rfl, rfl, _⟩ | ⟨kh, rfl⟩
    · rcases hl with ⟨rfl, rfl⟩ | ⟨kl, rfl⟩
      · simp
      · simp [sliceBound_ok h0 h1]
    · rcases hl with ⟨rfl, rfl⟩ | ⟨kl, rfl⟩
      · simp [sliceBound_ok (by omega : 0 ≤ h) h2]
      · simp [sliceBound_ok (by omega : 0 ≤ h) h2, sliceBound_ok h0 (by omega : l ≤ (h.toNat : Int))]
  · rcases hh with ⟨_, _, h4⟩ | ⟨kh, rfl⟩
    · cases h4
    · rcases hl with ⟨rfl, rfl⟩ | ⟨kl, rfl⟩
      · simp [sliceBound_ok (by omega : 0 ≤ m) h3, sliceBound_ok (by omega : 0 ≤ h) (by omega : h ≤ (m.toNat : Int))]
      · simp [sliceBound_ok (by omega : 0 ≤ m) h3, sliceBound_ok (by omega : 0 ≤ h) (by omega : h ≤ (m.toNat : Int)), sliceBound_ok h0 (by omega : l ≤ (h.toNat : Int))]
end Go.Lv
namespace Go.Lv
open Go
theorem rSlc_sound {P : Program} {t : TypeId} {x : AV} {lo hi mx : Option AV} {c : Cx} {v : Value} {vlo vhi vmx : Option Value} (hx : G x c v)
    (hlo : ∀ a, lo = some a → ∃ u, vlo = some u ∧ G a c u) (nlo : lo = none → vlo = none)
    (hhi : ∀ a, hi = some a → ∃ u, vhi = some u ∧ G a c u) (nhi : hi = none → vhi = none)
    (hmx : ∀ a, mx = some a → ∃ u, vmx = some u ∧ G a c u) (nmx : mx = none → vmx = none) (hfit : ∀ id off n z b cells T fz, x = .ptr id off → c.ρ id = some (some b) → c.w.heap[b]? = some (Obj.cells cells T fz) → (tiOf P t).d = .arr n z → off + n * (tiOf P z).size ≤ cells.size)
    (hptr : ∀ id off, x = .ptr id off → ∀ b, c.ρ id = some (some b) → ∃ cells T fz, c.w.heap[b]? = some (Obj.cells cells T fz))
    (h : (rSlc (tiOf P) t x lo hi mx).1) :
    ∃ u, (Instr.sliceAt t v vlo vhi vmx).run P c.w = .ok u c.w ∧ G (rSlc (tiOf P) t x lo hi mx).2 c u := by
  unfold rSlc at h ⊢
  cases hd : (tiOf P t).d <;> simp only [hd] at h ⊢
  case arr n e =>
    have hu := und_arr hd
    cases hb : (mx.isSome && hi.isNone) with
    | true => simp [hb] at h
    | false =>
      simp only [hb, cond_false] at h ⊢
      cases h1 : optI lo 0 with
      | none => simp [h1] at h
      | some l =>
        cases h2 : optI hi n with
        | none => simp [h1, h2] at h
        | some hh =>
          cases h3 : optI mx n with
          | none => simp [h1, h2, h3] at h
          | some m =>
            simp only [h1, h2, h3] at h ⊢
            have k1 := optI_sound h1 hlo nlo
            have k2 : (vhi = none ∧ hh = (n : Int) ∧ vmx = none) ∨ ∃ kd, vhi = some (.int kd hh) := by
              rcases optI_sound h2 hhi nhi with ⟨a, b⟩ | ⟨kd, a⟩
              · left
                refine ⟨a, b, ?_⟩
                cases hi with
                | some q => obtain ⟨u, hq, _⟩ := hhi q rfl; rw [a] at hq; cases hq
                | none => cases mx with
                  | none => exact nmx rfl
                  | some q => simp at hb
              · exact .inr ⟨kd, a⟩
            have k3 := optI_sound h3 hmx nmx
            cases x <;> simp only at h ⊢
            case ptr id off =>
              have hx' := hx
              simp only [G] at hx ⊢
              obtain ⟨b, hbb, rfl⟩ := hx
              obtain ⟨ho, p1, p2, p3, p4⟩ := h
              have hs := run_sizeOf (w := c.w) (ok_ne ho)
              obtain ⟨cells, T, fz, hc⟩ := hptr id off rfl b hbb
              have hf := hfit id off n e b cells T fz rfl hbb hc hd
              refine ⟨_, ?_, .inr ⟨b, if m.toNat = l.toNat then off else off + l.toNat * (tiOf P e).size, m.toNat - l.toNat, cells, T, fz, hbb, hc, by omega, ?_, ?_, rfl⟩⟩
              · simp only [Instr.sliceAt, Sem.run_bind, run_underlying hu, Result.andThen_ok, Instr.sureAddr, Sem.run_pure, sliceBounds_ok k1 k2 k3 p1 p2 p3 p4, hs, addr_add]
                by_cases hml : m.toNat = l.toNat <;> simp [hml]
              · by_cases hml : m.toNat = l.toNat
                · right; omega
                · left; simp [hml]
              · by_cases hml : m.toNat = l.toNat
                · simp only [hml, if_true, Nat.sub_self, Nat.zero_mul]; omega
                · simp only [hml, if_false]
                  have : l.toNat * (tiOf P e).size + (m.toNat - l.toNat) * (tiOf P e).size ≤ n * (tiOf P e).size := by
                    rw [← Nat.add_mul]; exact Nat.mul_le_mul_right _ (by omega)
                  omega
            case rop fr cs =>
              simp only [G] at hx ⊢
              obtain ⟨b, o, rfl, hN, hF, hg⟩ := hx
              obtain ⟨ho, p1, p2, p3, p4, p5⟩ := h
              have hs := run_sizeOf (w := c.w) (ok_ne ho)
              refine ⟨_, ?_, .inr ⟨b, if m.toNat = l.toNat then o else o + l.toNat * (tiOf P e).size, m.toNat - l.toNat, rfl, by omega, hN, hF, ?_⟩⟩
              · simp only [Instr.sliceAt, Sem.run_bind, run_underlying hu, Result.andThen_ok, Instr.sureAddr, Sem.run_pure, sliceBounds_ok k1 k2 k3 p1 p2 p3 p4, hs, addr_add]
                by_cases hml : m.toNat = l.toNat <;> simp [hml]
              · by_cases hml : m.toNat = l.toNat
                · have : hh.toNat - l.toNat = 0 := by omega
                  simp [this, GC]
                · simp only [hml, if_false]
                  exact GC_take (GC_drop hg _) _
  case sl e =>
    have hu := und_sl hd
    cases x <;> simp only at h ⊢
    case sl id off n z =>
      cases h1 : optI lo 0 with
      | none => simp [h1] at h
      | some l =>
        cases h2 : optI hi n with
        | none => simp [h1, h2] at h
        | some hh =>
          cases mx with
          | some q => simp [h1, h2] at h
          | none =>
            simp only [h1, h2] at h ⊢
            have k1 := optI_sound h1 hlo nlo
            have k2 : (vhi = none ∧ hh = (n : Int) ∧ vmx = none) ∨ ∃ kd, vhi = some (.int kd hh) := by
              rcases optI_sound h2 hhi nhi with ⟨a, b⟩ | h2
              · exact .inl ⟨a, b, nmx rfl⟩
              · exact .inr h2
            obtain ⟨ho, rfl, p1, p2, p3⟩ := h
            have hs := run_sizeOf (w := c.w) (ok_ne ho)
            rw [nmx rfl] at k2 ⊢
            simp only [G] at hx ⊢
            rcases hx with ⟨q1, q2, rfl⟩ | ⟨b, o, cap, cells, T, fz, q1, q2, q3, q4, q5, rfl⟩
            · subst q2
              obtain rfl : l = 0 := by omega
              obtain rfl : hh = 0 := by omega
              refine ⟨_, ?_, .inl ⟨q1, rfl, rfl⟩⟩
              have := sliceBounds_ok (P := P) (w := c.w) (isS := true) (len := 0) (cap := 0) k1 k2 (.inl ⟨rfl, rfl⟩) (by omega) (by omega) (by omega) (by omega)
              simp [Instr.sliceAt, Instr.slice, run_underlying hu, this, hs]
            · refine ⟨_, ?_, .inr ⟨b, if cap = l.toNat then o else o + l.toNat * (tiOf P e).size, cap - l.toNat, cells, T, fz, q1, q2, by omega, ?_, ?_, rfl⟩⟩
              · have := sliceBounds_ok (P := P) (w := c.w) (isS := true) (len := n) (cap := cap) k1 k2 (.inl ⟨rfl, rfl⟩) p1 p2 (by omega) (by omega)
                simp only [Instr.sliceAt, Instr.slice, Sem.run_bind, run_underlying hu, Result.andThen_ok, this, hs, Sem.run_pure, Int.toNat_natCast, addr_add]
                by_cases hml : cap = l.toNat <;> simp [hml, addr_add]
              · by_cases hml : cap = l.toNat
                · right; omega
                · left; simp only [hml, if_false]; rcases q4 with q4 | q4
                  · rw [q4]
                  · omega
              · by_cases hml : cap = l.toNat
                · simp only [hml, if_true, Nat.sub_self, Nat.zero_mul]; subst hml; omega
                · simp only [hml, if_false]
                  have : l.toNat * (tiOf P e).size + (cap - l.toNat) * (tiOf P e).size = cap * (tiOf P e).size := by
                    rw [← Nat.add_mul]; congr 1; omega
                  omega
    case ros fr n cs =>
      cases h1 : optI lo 0 with
      | none => simp [h1] at h
      | some l =>
        cases h2 : optI hi n with
        | none => simp [h1, h2] at h
        | some hh =>
          cases mx with
          | some q => simp [h1, h2] at h
          | none =>
            simp only [h1, h2] at h ⊢
            have k1 := optI_sound h1 hlo nlo
            have k2 : (vhi = none ∧ hh = (n : Int) ∧ vmx = none) ∨ ∃ kd, vhi = some (.int kd hh) := by
              rcases optI_sound h2 hhi nhi with ⟨a, b⟩ | h2
              · exact .inl ⟨a, b, nmx rfl⟩
              · exact .inr h2
            obtain ⟨ho, p1, p2, p3⟩ := h
            have hs := run_sizeOf (w := c.w) (ok_ne ho)
            rw [nmx rfl] at k2 ⊢
            simp only [G] at hx ⊢
            rcases hx with ⟨q1, q2, base, rfl⟩ | ⟨b, o, cap, rfl, q2, q3, q4, q5⟩
            · subst q1 q2
              obtain rfl : l = 0 := by omega
              obtain rfl : hh = 0 := by omega
              refine ⟨.slice base 0 0, ?_, .inl ⟨rfl, by simp, base, rfl⟩⟩
              have := sliceBounds_ok (P := P) (w := c.w) (isS := true) (len := 0) (cap := 0) k1 k2 (.inl ⟨rfl, rfl⟩) (by omega) (by omega) (by omega) (by omega)
              cases base <;> simp [Instr.sliceAt, Instr.slice, run_underlying hu, this, hs]
            · refine ⟨_, ?_, .inr ⟨b, if cap = l.toNat then o else o + l.toNat * (tiOf P e).size, cap - l.toNat, rfl, by omega, q3, q4, ?_⟩⟩
              · have := sliceBounds_ok (P := P) (w := c.w) (isS := true) (len := n) (cap := cap) k1 k2 (.inl ⟨rfl, rfl⟩) p1 p2 (by omega) (by omega)
                simp only [Instr.sliceAt, Instr.slice, Sem.run_bind, run_underlying hu, Result.andThen_ok, this, hs, Sem.run_pure, Int.toNat_natCast, addr_add]
                by_cases hml : cap = l.toNat <;> simp [hml, addr_add]
              · by_cases hml : cap = l.toNat
                · have : hh.toNat - l.toNat = 0 := by omega
                  simp [this, GC]
                · simp only [hml, if_false]
                  exact GC_take (GC_drop q5 _) _
    case nils =>
      cases h1 : optI lo 0 with
      | none => simp [h1] at h
      | some l =>
        cases h2 : optI hi 0 with
        | none => simp [h1, h2] at h
        | some hh =>
          cases mx with
          | some q => simp [h1, h2] at h
          | none =>
            simp only [h1, h2] at h ⊢
            have k1 := optI_sound h1 hlo nlo
            obtain ⟨ho, rfl, rfl⟩ := h
            have k2 : (vhi = none ∧ (0 : Int) = ((0 : Nat) : Int) ∧ vmx = none) ∨ ∃ kd, vhi = some (.int kd 0) := by
              rcases optI_sound h2 hhi nhi with ⟨a, b⟩ | h2
              · exact .inl ⟨a, by simp, nmx rfl⟩
              · exact .inr h2
            have hs := run_sizeOf (w := c.w) (ok_ne ho)
            rw [nmx rfl] at k2 ⊢
            simp only [G] at hx ⊢
            subst hx
            refine ⟨_, ?_, rfl⟩
            have := sliceBounds_ok (P := P) (w := c.w) (isS := true) (len := 0) (cap := 0) k1 k2 (.inl ⟨rfl, rfl⟩) (by omega) (by omega) (by omega) (by omega)
            simp [Instr.sliceAt, Instr.slice, run_underlying hu, this, hs]
end Go.Lv
namespace Go.Lv
open Go
theorem seg_size {c : Cx} {xs : List AV} {b : Nat} {cells : Array Value} {T : TypeId} {f : Nat × Nat} (h : c.w.heap[b]? = some (Obj.cells cells T f)) (hg : GC xs c b 0) : xs.length ≤ cells.size := by
  rw [GC_iff] at hg
  cases hl : xs.length with
  | zero => omega
  | succ n =>
    have hlt : n < xs.length := by omega
    obtain ⟨u, h1, _⟩ := hg n _ (List.getElem?_eq_getElem hlt)
    rw [cell?_of h, Nat.zero_add] at h1
    have := (Array.getElem?_eq_some_iff.1 h1).1
    omega
def fitH (T : TypeId → TI) (H : List (Nat × Seg)) (t : TypeId) (x : AV) : Prop := match x with
  | .ptr id off => match (T t).d with
    | .arr n e => match lkf H id with
      | some seg => off + n * (T e).size ≤ seg.cells.length
      | none => False
    | _ => True
  | _ => True
theorem rSlcH_sound {P : Program} {H : List (Nat × Seg)} {t : TypeId} {x : AV} {lo hi mx : Option AV} {c : Cx} {v : Value} {vlo vhi vmx : Option Value} (hH : HeapOK c H lkf) (hx : G x c v)
    (hlo : ∀ a, lo = some a → ∃ u, vlo = some u ∧ G a c u) (nlo : lo = none → vlo = none)
    (hhi : ∀ a, hi = some a → ∃ u, vhi = some u ∧ G a c u) (nhi : hi = none → vhi = none)
    (hmx : ∀ a, mx = some a → ∃ u, vmx = some u ∧ G a c u) (nmx : mx = none → vmx = none)
    (h0 : fitH (tiOf P) H t x) (h : (rSlc (tiOf P) t x lo hi mx).1) :
    ∃ u, (Instr.sliceAt t v vlo vhi vmx).run P c.w = .ok u c.w ∧ G (rSlc (tiOf P) t x lo hi mx).2 c u := by
  cases hd : (tiOf P t).d with
  | arr n e =>
    refine rSlc_sound hx hlo nlo hhi nhi hmx nmx ?_ ?_ h
    · intro id off n' z b cells T fz hx' hb hc hd'
      subst hx'
      rw [hd] at hd'; cases hd'
      simp only [fitH, hd] at h0
      cases hs : lkf H id with
      | none => simp [hs] at h0
      | some seg =>
        simp only [hs] at h0
        rcases hH id seg hs with ⟨h1, _⟩ | ⟨b', cells', T', h1, h2, h3⟩
        · rw [h1] at hb; cases hb
        · rw [h1] at hb; cases hb
          rw [h2] at hc; cases hc
          have := seg_size h2 h3
          omega
    · intro id off hx' b hb
      subst hx'
      simp only [fitH, hd] at h0
      cases hs : lkf H id with
      | none => simp [hs] at h0
      | some seg =>
        rcases hH id seg hs with ⟨h1, _⟩ | ⟨b', cells', T', h1, h2, h3⟩
        · rw [h1] at hb; cases hb
        · rw [h1] at hb; cases hb; exact ⟨_, _, _, h2⟩
  | sl e =>
    refine rSlc_sound hx hlo nlo hhi nhi hmx nmx ?_ ?_ h
    · intro id off n' z b cells T fz _ _ _ hd'
      rw [hd] at hd'; cases hd'
    · intro id off hx' b hb
      exfalso
      subst hx'
      simp [rSlc, hd] at h
  | _ => simp [rSlc, hd] at h
def eq1 : Bool → AV → AV → Option Bool
  | false, .i a, .i b => some (decide (a = b))
  | false, .u8 a, .u8 b => some (decide (a = b))
  | false, .u16 a, .u16 b => some (decide (a = b))
  | false, .u32 a, .u32 b => some (decide (a = b))
  | false, .u64 a, .u64 b => some (decide (a = b))
  | true, .b a, .b b => some (decide (a = b))
  | _, _, _ => none
def eqL : List Bool → List AV → List AV → Option Bool
  | [], [], [] => some true
  | k :: ks, x :: xs, y :: ys => match eq1 k x y, eqL ks xs ys with
    | some a, some b => some (a && b)
    | _, _ => none
  | _, _, _ => none
theorem one_und {P : Program} {t : TypeId} {k : Bool} (h : oneT P t = some k) : P.cellsOf t = 1 ∧ ((k = false ∧ ∃ kd, P.underlying t = some (.int kd)) ∨ (k = true ∧ P.underlying t = some .bool)) := by
  unfold oneT at h
  split at h
  · rename_i h1
    refine ⟨by simpa using h1, ?_⟩
    split at h <;> simp at h
    · rename_i kd hk; exact .inl ⟨h, kd, hk⟩
    · rename_i hk; exact .inr ⟨h, hk⟩
  · cases h
theorem one_isAgg {P : Program} {t : TypeId} {w : World} {k : Bool} (h : oneT P t = some k) : (isAgg t).run P w = .ok false w := by
  rcases (one_und h).2 with ⟨_, kd, hk⟩ | ⟨_, hk⟩ <;> simp [isAgg, run_underlying hk]
theorem eq1_sound {P : Program} {t : TypeId} {w : World} {x y : AV} {c : Cx} {u v : Value} {r k : Bool} (d : Nat) (h1 : oneT P t = some k) (h : eq1 k x y = some r) (hx : G x c u) (hy : G y c v) :
    (Op.equalIn (d + 1) t u v).run P w = .ok r w := by
  rcases (one_und h1).2 with ⟨rfl, kd, hk⟩ | ⟨rfl, hk⟩
  · have hi : ∀ (k : IntKind) (a b : Int), (Op.equalIn (d + 1) t (.int k a) (.int k b)).run P w = .ok (a == b) w := fun k a b => run_equalIn_int w d t k kd a b hk
    cases x <;> cases y <;> simp only [eq1, Option.some.injEq, reduceCtorEq] at h <;> simp only [G] at hx hy <;> subst hx hy h
    all_goals (rw [hi]; apply congrArg (fun z => Result.ok z w); rw [Bool.eq_iff_iff]; simp only [beq_iff_eq, decide_eq_true_eq, ← BitVec.toNat_inj, Int.ofNat_inj])
  · cases x <;> cases y <;> simp only [eq1, Option.some.injEq, reduceCtorEq] at h <;> simp only [G] at hx hy <;> subst hx hy h
    rw [run_equalIn_bool' w d t _ _ hk]; rfl
theorem part_one {P : Program} {t : TypeId} {w : World} {k : Bool} (h : oneT P t = some k) {vs : Array Value} {o : Nat} {u : Value} (hu : vs[o]? = some u) : (part t vs o).run P w = .ok u w := by
  simp [part, one_isAgg h, hu]
theorem eqFields_sound {P : Program} {w : World} {c : Cx} (d : Nat) {us vs : Array Value} : ∀ (fs : List Field) (o : Nat) (ks : List Bool) (xs ys : List AV) (r : Bool), flatFs P fs o = some ks → eqL ks xs ys = some r →
    GL xs c (us.toList.drop o) → GL ys c (vs.toList.drop o) → (Op.eqFields (d + 1) us vs fs).run P w = .ok r w := by
  intro fs
  induction fs with
  | nil =>
    intro o ks xs ys r hf he _ _
    simp only [flatFs, Option.some.injEq] at hf
    subst hf
    cases xs <;> cases ys <;> simp only [eqL, Option.some.injEq, reduceCtorEq] at he
    subst he; simp [Op.eqFields]
  | cons f fs ih =>
    intro o ks xs ys r hf he hx hy
    simp only [flatFs] at hf
    split at hf
    · rename_i hn
      simp only [Bool.and_eq_true, bne_iff_ne, beq_iff_eq] at hn
      cases h1 : oneT P f.type with
      | none => simp [h1] at hf
      | some b =>
        cases h2 : flatFs P fs (o + 1) with
        | none => simp [h1, h2] at hf
        | some rr =>
          simp only [h1, h2, Option.some.injEq] at hf
          subst hf
          cases xs with
          | nil => cases ys <;> simp [eqL] at he
          | cons x xs =>
            cases ys with
            | nil => simp [eqL] at he
            | cons y ys =>
              simp only [eqL] at he
              cases h3 : eq1 b x y with
              | none => simp [h3] at he
              | some a =>
                cases h4 : eqL rr xs ys with
                | none => simp [h3, h4] at he
                | some a' =>
                  simp only [h3, h4, Option.some.injEq] at he
                  subst he
                  simp only [GL] at hx hy
                  obtain ⟨u, us', e1, g1, g2⟩ := hx
                  obtain ⟨v, vs', e2, g3, g4⟩ := hy
                  have d1 : us.toList.drop (o + 1) = us' := by rw [← List.drop_drop, e1]; rfl
                  have d2 : vs.toList.drop (o + 1) = vs' := by rw [← List.drop_drop, e2]; rfl
                  have q1 : us[o]? = some u := by
                    have : (us.toList.drop o)[0]? = some u := by rw [e1]; rfl
                    simpa using this
                  have q2 : vs[o]? = some v := by
                    have : (vs.toList.drop o)[0]? = some v := by rw [e2]; rfl
                    simpa using this
                  simp only [Op.eqFields, if_pos hn.1, Sem.run_bind, hn.2, part_one h1 q1, part_one h1 q2, Result.andThen_ok, eq1_sound d h1 h3 g1 g3]
                  cases a with
                  | false => simp
                  | true =>
                    simp only [Bool.not_true, Bool.false_eq_true, if_false, Bool.true_and]
                    exact ih (o + 1) rr xs ys a' h2 h4 (by rw [d1]; exact g2) (by rw [d2]; exact g4)
    · cases hf
theorem eqArr_sound {P : Program} {w : World} {c : Cx} (d : Nat) {e : TypeId} {k : Bool} (h1 : oneT P e = some k) {us vs : Array Value} : ∀ (m o : Nat) (xs ys : List AV) (r : Bool), eqL (List.replicate m k) xs ys = some r →
    GL xs c (us.toList.drop o) → GL ys c (vs.toList.drop o) →
    ∃ s, (forIn (m := Sem) (List.range' o m) ((none, ()) : Option Bool × Unit) (fun i _ => do
      let a ← part e us (i * 1)
      let b ← part e vs (i * 1)
      let z ← Op.equalIn (d + 1) e a b
      if (!z) = true then pure (ForInStep.done (some false, ())) else pure (ForInStep.yield (none, ())))).run P w = .ok s w ∧ ((r = true ∧ s.1 = none) ∨ (r = false ∧ s.1 = some false)) := by
  intro m
  induction m with
  | zero =>
    intro o xs ys r he _ _
    cases xs <;> cases ys <;> simp only [List.replicate_zero, eqL, Option.some.injEq, reduceCtorEq] at he
    subst he; exact ⟨(none, ()), by simp [List.range'], .inl ⟨rfl, rfl⟩⟩
  | succ m ih =>
    intro o xs ys r he hx hy
    cases xs with
    | nil => cases ys <;> simp [eqL, List.replicate_succ] at he
    | cons x xs =>
      cases ys with
      | nil => simp [eqL, List.replicate_succ] at he
      | cons y ys =>
        simp only [List.replicate_succ, eqL] at he
        cases h3 : eq1 k x y with
        | none => simp [h3] at he
        | some a =>
          cases h4 : eqL (List.replicate m k) xs ys with
          | none => simp [h3, h4] at he
          | some a' =>
            simp only [h3, h4, Option.some.injEq] at he
            subst he
            simp only [GL] at hx hy
            obtain ⟨u, us', e1, g1, g2⟩ := hx
            obtain ⟨v, vs', e2, g3, g4⟩ := hy
            have d1 : us.toList.drop (o + 1) = us' := by rw [← List.drop_drop, e1]; rfl
            have d2 : vs.toList.drop (o + 1) = vs' := by rw [← List.drop_drop, e2]; rfl
            have q1 : us[o]? = some u := by
              have : (us.toList.drop o)[0]? = some u := by rw [e1]; rfl
              simpa using this
            have q2 : vs[o]? = some v := by
              have : (vs.toList.drop o)[0]? = some v := by rw [e2]; rfl
              simpa using this
            obtain ⟨s, hs1, hs2⟩ := ih (o + 1) xs ys a' h4 (by rw [d1]; exact g2) (by rw [d2]; exact g4)
            simp only [List.range'_succ, List.forIn_cons, Sem.run_bind, Nat.mul_one, part_one h1 q1, part_one h1 q2, Result.andThen_ok, eq1_sound d h1 h3 g1 g3]
            cases a with
            | false => exact ⟨(some false, ()), by simp, .inr ⟨by simp, rfl⟩⟩
            | true =>
              refine ⟨s, ?_, by simpa using hs2⟩
              simp only [Bool.not_true, Bool.false_eq_true, if_false, Sem.run_pure, Result.andThen_ok]
              simpa using hs1
theorem flat_eq_sound {P : Program} {t : TypeId} {ks : List Bool} {xs ys : List AV} {r : Bool} {c : Cx} {us vs : Array Value} (d : Nat) (hf : flat P t = some ks) (he : eqL ks xs ys = some r)
    (hx : GL xs c us.toList) (hy : GL ys c vs.toList) : (Op.equalIn (d + 1 + 1) t (.agg us) (.agg vs)).run P c.w = .ok r c.w := by
  unfold flat at hf
  split at hf
  · cases hf
  · rename_i h0
    have hp : P.stoodInHeld t = false := by cases hq : P.stoodInHeld t <;> simp [hq] at h0 ⊢
    split at hf
    · rename_i n e hu
      cases h1 : oneT P e with
      | none => simp [h1] at hf
      | some k =>
        simp only [h1, Option.map_some, Option.some.injEq] at hf
        subst hf
        have hs : (sizeOf e).run P c.w = .ok 1 c.w := by
          have h2 := (one_und h1).1
          simp only [Program.cellsOf] at h2
          cases hi : P.info? e with
          | none => simp [hi] at h2
          | some i => simp [hi] at h2; simp [sizeOf, typeInfo, hi, h2]
        obtain ⟨s, hs1, hs2⟩ := eqArr_sound (c := c) (w := c.w) d h1 (us := us) (vs := vs) n 0 xs ys r he (by simpa using hx) (by simpa using hy)
        unfold Op.equalIn
        simp only [Sem.run_bind, run_underlying hu, Result.andThen_ok, hs]
        simp only [Std.Legacy.Range.forIn_eq_forIn_range', Std.Legacy.Range.size, Nat.sub_zero, Nat.add_sub_cancel, Nat.div_one]
        rw [hs1]
        rcases hs2 with ⟨rfl, e⟩ | ⟨rfl, e⟩ <;> simp [e]
    · rename_i fs hu
      have hfo : P.fieldsOf t = fs := by simp [Program.fieldsOf, hu]
      rw [run_equalIn_struct (P := P) c.w (d + 1) t us vs (by rw [hfo]; exact hu) hp, hfo]
      exact eqFields_sound d fs.toList 0 ks xs ys r hf he (by simpa using hx) (by simpa using hy)
    · cases hf
end Go.Lv
namespace Go.Lv
open Go
theorem fl_flat {P : Program} {t : TypeId} {ks : List Bool} (h : (tiOf P t).fl = some ks) : flat P t = some ks := by
  unfold tiOf at h
  cases hi : P.info? t with
  | none => simp [hi] at h
  | some i => simpa [hi] using h
theorem flat_guard {P : Program} {t : TypeId} {ks : List Bool} (h : flat P t = some ks) : P.eqGuardType P.depth t = false := by
  unfold flat at h
  split at h
  · cases h
  · rename_i h0
    cases hq : P.eqGuardType P.depth t <;> simp [hq] at h0 ⊢
def eqV (T : TypeId → TI) (t : TypeId) : AV → AV → Option Bool
  | .b p, .b q => match (T t).d with | .bool => some (decide (p = q)) | _ => none
  | .agg xs, .agg ys => match (T t).fl with | some ks => eqL ks xs ys | none => none
  | .nilp, .nilp => match (T t).d with | .ptr => some true | _ => none
  | .nilp, .ptr _ _ => match (T t).d with | .ptr => some false | _ => none
  | .nilp, .rop _ _ => match (T t).d with | .ptr => some false | _ => none
  | .ptr _ _, .nilp => match (T t).d with | .ptr => some false | _ => none
  | .rop _ _, .nilp => match (T t).d with | .ptr => some false | _ => none
  | .nilfn, .nilfn => match (T t).d with | .fn => some true | _ => none
  | .fn _ _ _, .nilfn => match (T t).d with | .fn => some false | _ => none
  | .s a, .s b => some (decide (a = b))
  | _, _ => none
def rEq (T : TypeId → TI) (op : BinOp) (t : TypeId) (x y : AV) : R := match op with
  | .eql => match eqV T t x y with | some r => (True, .b r) | none => (False, .junk)
  | .neq => match eqV T t x y with | some r => (True, .b (!r)) | none => (False, .junk)
  | _ => (False, .junk)
def rSh (op : BinOp) (x y : AV) : R :=
  match idx y with
    | some n => match x with
      | .i a => shI op a n
      | .u8 a => shU .u8 op a n
      | .u16 a => shU .u16 op a n
      | .u32 a => shU .u32 op a n
      | .u64 a => shU .u64 op a n
      | _ => (False, .junk)
    | none => (False, .junk)
def rAr (T : TypeId → TI) (op : BinOp) (t : TypeId) (x y : AV) : R :=
  match x, y with
    | .i a, .i b => arI op a b
    | .u8 a, .u8 b => arU .u8 op a b
    | .u16 a, .u16 b => arU .u16 op a b
    | .u32 a, .u32 b => arU .u32 op a b
    | .u64 a, .u64 b => arU .u64 op a b
    | x, y => rEq T op t x y
def rBin (T : TypeId → TI) (op : BinOp) (t : TypeId) (x y : AV) : R :=
  match op with
  | .shl => rSh .shl x y
  | .shr => rSh .shr x y
  | op => rAr T op t x y
theorem und_ptr {P : Program} {t : TypeId} (h : (tiOf P t).d = .ptr) : ∃ e, P.underlying t = some (.pointer e) := by
  obtain ⟨d, h1, h2⟩ := und_some (P := P) (t := t) (by rw [h]; simp)
  rw [h] at h2; rw [h1]; unfold tdOf at h2
  split at h2 <;> simp_all
theorem und_fn {P : Program} {t : TypeId} (h : (tiOf P t).d = .fn) : ∃ a b c, P.underlying t = some (.func a b c) := by
  obtain ⟨d, h1, h2⟩ := und_some (P := P) (t := t) (by rw [h]; simp)
  rw [h] at h2; rw [h1]; unfold tdOf at h2
  split at h2 <;> simp_all
theorem und_bool {P : Program} {t : TypeId} (h : (tiOf P t).d = .bool) : P.underlying t = some .bool := by
  obtain ⟨d, h1, h2⟩ := und_some (P := P) (t := t) (by rw [h]; simp)
  rw [h] at h2; rw [h1]; unfold tdOf at h2
  split at h2 <;> simp_all
theorem eqGuard_plain {P : Program} {w : World} (op : BinOp) (t : TypeId) (x y : Operand) (a b : Value) (h : ∀ u v, ¬ (a = .agg u ∧ b = .agg v)) (h' : ¬ (a = .nilIface ∧ b = .nilIface)) : (eqGuard op t x y a b).run P w = .ok () w := by
  cases op <;> (simp only [eqGuard, Bool.not_true, Bool.not_false, Bool.false_eq_true, if_false, if_true]; first
    | rfl
    | (split <;> first | rfl | (exact absurd ⟨rfl, rfl⟩ h') | (exact absurd ⟨rfl, rfl⟩ (h _ _))))
theorem eqV_sound {P : Program} {t : TypeId} {x y : AV} {c : Cx} {u v : Value} {r : Bool} (hx : G x c u) (hy : G y c v) (h : eqV (tiOf P) t x y = some r) :
    (∀ a b, (binOp .eql t u v).run P c.w = .ok (.bool r) c.w ∧ (binOp .neq t u v).run P c.w = .ok (.bool (!r)) c.w ∧ ∀ op, (eqGuard op t a b u v).run P c.w = .ok () c.w) := by
  intro a b
  have hpt : ∀ (u v : Value) (r : Bool), (∀ n, (Op.equalIn (n + 1) t u v).run P c.w = .ok r c.w) → (Op.equal t u v).run P c.w = .ok r c.w := fun u v r h => h 9999
  cases x <;> cases y <;> simp only [eqV, reduceCtorEq] at h <;> simp only [G] at hx hy
  case b.b p q =>
    subst hx hy
    cases hd : (tiOf P t).d <;> simp [hd] at h
    have hu := und_bool hd
    have e : (Op.equal t (.bool p) (.bool q)).run P c.w = .ok r c.w := hpt _ _ _ (fun n => by rw [run_equalIn_bool' c.w n t p q hu, ← h]; rfl)
    refine ⟨by simp [binOp, e], by simp [binOp, e], fun op => eqGuard_plain _ _ _ _ _ _ (by simp) (by simp)⟩
  case agg.agg xs ys =>
    obtain ⟨us, rfl, _, g1⟩ := hx
    obtain ⟨vs, rfl, _, g2⟩ := hy
    cases hf : (tiOf P t).fl with
    | none => simp [hf] at h
    | some ks =>
      simp only [hf] at h
      have e := flat_eq_sound (d := 9998) (fl_flat hf) h g1 g2
      refine ⟨?_, ?_, fun op => run_eqGuard_agg c.w op t a b us vs (flat_guard (fl_flat hf))⟩
      · rw [run_eql_struct, e]; rfl
      · rw [run_neq_struct, e]; rfl
  case s.s p q =>
    subst hx hy
    simp only [Option.some.injEq] at h
    subst h
    have e : (p.toList == q.toList) = decide (p = q) := by
      rw [ByteArray.toList_eq, ByteArray.toList_eq, Bool.eq_iff_iff]
      simp only [beq_iff_eq, decide_eq_true_eq]
      constructor
      · intro h; obtain ⟨⟨a⟩⟩ := p; obtain ⟨⟨b⟩⟩ := q; simp at h; rw [h]
      · intro h; rw [h]
    refine ⟨by simp [binOp, Op.stringOp, e], by simp [binOp, Op.stringOp, e], fun op => eqGuard_plain _ _ _ _ _ _ (by simp) (by simp)⟩
  case nilp.nilp =>
    subst hx hy
    cases hd : (tiOf P t).d <;> simp [hd] at h
    obtain ⟨e, hu⟩ := und_ptr hd
    subst h
    have e : (Op.equal t (.pointer none) (.pointer none)).run P c.w = .ok true c.w := hpt _ _ _ (fun n => by simp [Op.equalIn, run_underlying hu])
    refine ⟨by simp [binOp, e], by simp [binOp, e], fun op => eqGuard_plain _ _ _ _ _ _ (by simp) (by simp)⟩
  case nilp.ptr =>
    obtain ⟨b', _, rfl⟩ := hy
    subst hx
    cases hd : (tiOf P t).d <;> simp [hd] at h
    obtain ⟨e, hu⟩ := und_ptr hd
    subst h
    have e : ∀ z, (Op.equal t (.pointer none) (.pointer (some z))).run P c.w = .ok false c.w := fun z => hpt _ _ _ (fun n => by simp [Op.equalIn, run_underlying hu])
    refine ⟨by simp [binOp, e], by simp [binOp, e], fun op => eqGuard_plain _ _ _ _ _ _ (by simp) (by simp)⟩
  case nilp.rop =>
    obtain ⟨b', o', rfl, _⟩ := hy
    subst hx
    cases hd : (tiOf P t).d <;> simp [hd] at h
    obtain ⟨e, hu⟩ := und_ptr hd
    subst h
    have e : ∀ z, (Op.equal t (.pointer none) (.pointer (some z))).run P c.w = .ok false c.w := fun z => hpt _ _ _ (fun n => by simp [Op.equalIn, run_underlying hu])
    refine ⟨by simp [binOp, e], by simp [binOp, e], fun op => eqGuard_plain _ _ _ _ _ _ (by simp) (by simp)⟩
  case ptr.nilp =>
    obtain ⟨b', _, rfl⟩ := hx
    subst hy
    cases hd : (tiOf P t).d <;> simp [hd] at h
    obtain ⟨e, hu⟩ := und_ptr hd
    subst h
    have e : ∀ z, (Op.equal t (.pointer (some z)) (.pointer none)).run P c.w = .ok false c.w := fun z => hpt _ _ _ (fun n => by simp [Op.equalIn, run_underlying hu])
    refine ⟨by simp [binOp, e], by simp [binOp, e], fun op => eqGuard_plain _ _ _ _ _ _ (by simp) (by simp)⟩
  case rop.nilp =>
    obtain ⟨b', o', rfl, _⟩ := hx
    subst hy
    cases hd : (tiOf P t).d <;> simp [hd] at h
    obtain ⟨e, hu⟩ := und_ptr hd
    subst h
    have e : ∀ z, (Op.equal t (.pointer (some z)) (.pointer none)).run P c.w = .ok false c.w := fun z => hpt _ _ _ (fun n => by simp [Op.equalIn, run_underlying hu])
    refine ⟨by simp [binOp, e], by simp [binOp, e], fun op => eqGuard_plain _ _ _ _ _ _ (by simp) (by simp)⟩
  case nilfn.nilfn =>
    subst hx hy
    cases hd : (tiOf P t).d <;> simp [hd] at h
    obtain ⟨_, _, _, hu⟩ := und_fn hd
    subst h
    have e : (Op.equal t .nilFunc .nilFunc).run P c.w = .ok true c.w := hpt _ _ _ (fun n => by simp [Op.equalIn, run_underlying hu])
    refine ⟨by simp [binOp, e], by simp [binOp, e], fun op => eqGuard_plain _ _ _ _ _ _ (by simp) (by simp)⟩
  case fn.nilfn =>
    obtain ⟨us, vs, rfl, _⟩ := hx
    subst hy
    cases hd : (tiOf P t).d <;> simp [hd] at h
    obtain ⟨_, _, _, hu⟩ := und_fn hd
    subst h
    have e : ∀ f, (Op.equal t (.func f us vs) .nilFunc).run P c.w = .ok false c.w := fun f => hpt _ _ _ (fun n => by simp [Op.equalIn, run_underlying hu])
    refine ⟨by simp [binOp, e], by simp [binOp, e], fun op => eqGuard_plain _ _ _ _ _ _ (by simp) (by simp)⟩
end Go.Lv
namespace Go.Lv
open Go
theorem hm8 (x : BitVec IntKind.u8.bits) (c : Cx) : G (.u8 x) c (.int .u8 x.toNat) := by simp only [G]; rfl
theorem hm16 (x : BitVec IntKind.u16.bits) (c : Cx) : G (.u16 x) c (.int .u16 x.toNat) := by simp only [G]; rfl
theorem hm32 (x : BitVec IntKind.u32.bits) (c : Cx) : G (.u32 x) c (.int .u32 x.toNat) := by simp only [G]; rfl
theorem hm64 (x : BitVec IntKind.u64.bits) (c : Cx) : G (.u64 x) c (.int .u64 x.toNat) := by simp only [G]; rfl
theorem bin_i {P : Program} {c : Cx} {t : TypeId} {op : BinOp} {a b : Int} (h : (arI op a b).1) (x y : Operand) :
    ∃ v, ((do eqGuard op t x y (.int .i64 a) (.int .i64 b); binOp op t (.int .i64 a) (.int .i64 b)) : Sem Value).run P c.w = .ok v c.w ∧ G (arI op a b).2 c v := by
  obtain ⟨v, k1, k2⟩ := arI_sound (P := P) (w := c.w) t op a b h
  refine ⟨v, ?_, k2 c⟩
  rw [Sem.run_bind, eqGuard_plain _ _ _ _ _ _ (by simp) (by simp)]
  exact k1
theorem bin_u {P : Program} {c : Cx} {t : TypeId} {op : BinOp} {k : IntKind} (hk : k.signed = false) (mk : BitVec k.bits → AV) (hmk : ∀ x c, G (mk x) c (.int k x.toNat)) {a b : BitVec k.bits} (h : (arU mk op a b).1) (x y : Operand) :
    ∃ v, ((do eqGuard op t x y (.int k a.toNat) (.int k b.toNat); binOp op t (.int k a.toNat) (.int k b.toNat)) : Sem Value).run P c.w = .ok v c.w ∧ G (arU mk op a b).2 c v := by
  obtain ⟨v, k1, k2⟩ := arU_sound (P := P) (w := c.w) t hk mk hmk op a b h
  refine ⟨v, ?_, k2 c⟩
  rw [Sem.run_bind, eqGuard_plain _ _ _ _ _ _ (by simp) (by simp)]
  exact k1
theorem sh_run {P : Program} {c : Cx} {t : TypeId} {op : BinOp} {u w : Value} {r : R} (hu : ∀ z, u ≠ .agg z) (hu' : u ≠ .nilIface) (h : ∃ v, (binOp op t u w).run P c.w = .ok v c.w ∧ ∀ c, G r.2 c v) (x y : Operand) :
    ∃ v, ((do eqGuard op t x y u w; binOp op t u w) : Sem Value).run P c.w = .ok v c.w ∧ G r.2 c v := by
  obtain ⟨v, k1, k2⟩ := h
  refine ⟨v, ?_, k2 c⟩
  rw [Sem.run_bind, eqGuard_plain _ _ _ _ _ _ (fun z _ h => hu z h.1) (fun h => hu' h.1)]
  exact k1
theorem rEq_sound {P : Program} {op : BinOp} {t : TypeId} {x y : AV} {c : Cx} {u v : Value} (hx : G x c u) (hy : G y c v) (h : (rEq (tiOf P) op t x y).1) (a b : Operand) :
    ∃ z, ((do eqGuard op t a b u v; binOp op t u v) : Sem Value).run P c.w = .ok z c.w ∧ G (rEq (tiOf P) op t x y).2 c z := by
  unfold rEq at h ⊢
  cases op <;> simp only at h ⊢
  all_goals
    cases he : eqV (tiOf P) t x y with
    | none => simp [he] at h
    | some r =>
      obtain ⟨k1, k2, k3⟩ := eqV_sound hx hy he a b
      refine ⟨_, by rw [Sem.run_bind, k3]; first | exact k1 | exact k2, by simp [G]⟩
theorem rBin_sound {P : Program} {op : BinOp} {t : TypeId} {x y : AV} {c : Cx} {u v : Value} (hx : G x c u) (hy : G y c v) (h0 : (rBin (tiOf P) op t x y).1) (a b : Operand) :
    ∃ z, ((do eqGuard op t a b u v; binOp op t u v) : Sem Value).run P c.w = .ok z c.w ∧ G (rBin (tiOf P) op t x y).2 c z := by
  have sh : op = .shl ∨ op = .shr → (rSh op x y).1 → ∃ z, ((do eqGuard op t a b u v; binOp op t u v) : Sem Value).run P c.w = .ok z c.w ∧ G (rSh op x y).2 c z := by
    intro ho h
    unfold rSh at h ⊢
    cases hn : idx y with
    | none => simp [hn] at h
    | some n =>
      obtain ⟨kd, rfl⟩ := idx_sound hy hn
      simp only [hn] at h ⊢
      cases x <;> simp only at h ⊢ <;> simp only [G] at hx <;> subst hx
      case i q => exact sh_run (by simp) (by simp) (shI_sound t op kd _ n h) a b
      case u8 q => exact sh_run (by simp) (by simp) (shU_sound t (k := .u8) rfl .u8 hm8 op kd _ n h) a b
      case u16 q => exact sh_run (by simp) (by simp) (shU_sound t (k := .u16) rfl .u16 hm16 op kd _ n h) a b
      case u32 q => exact sh_run (by simp) (by simp) (shU_sound t (k := .u32) rfl .u32 hm32 op kd _ n h) a b
      case u64 q => exact sh_run (by simp) (by simp) (shU_sound t (k := .u64) rfl .u64 hm64 op kd _ n h) a b
  have arr : (rAr (tiOf P) op t x y).1 → ∃ z, ((do eqGuard op t a b u v; binOp op t u v) : Sem Value).run P c.w = .ok z c.w ∧ G (rAr (tiOf P) op t x y).2 c z := by
    intro h
    unfold rAr at h ⊢
    split at h
    · rename_i p q; simp only [G] at hx hy; subst hx hy; exact bin_i h a b
    · rename_i p q; simp only [G] at hx hy; subst hx hy; exact bin_u (k := .u8) rfl .u8 hm8 h a b
    · rename_i p q; simp only [G] at hx hy; subst hx hy; exact bin_u (k := .u16) rfl .u16 hm16 h a b
    · rename_i p q; simp only [G] at hx hy; subst hx hy; exact bin_u (k := .u32) rfl .u32 hm32 h a b
    · rename_i p q; simp only [G] at hx hy; subst hx hy; exact bin_u (k := .u64) rfl .u64 hm64 h a b
    · exact rEq_sound hx hy h a b
  cases op
  case shl => exact sh (.inl rfl) h0
  case shr => exact sh (.inr rfl) h0
  all_goals exact arr h0
def rUn (op : UnOp) (x : AV) : R := match op, x with
  | .not, .b p => (True, .b (!p))
  | .xor, .u8 a => (True, .u8 (~~~a))
  | .xor, .u16 a => (True, .u16 (~~~a))
  | .xor, .u32 a => (True, .u32 (~~~a))
  | .xor, .u64 a => (True, .u64 (~~~a))
  | .neg, .i a => (-9223372036854775808 ≤ 0 - a ∧ 0 - a ≤ 9223372036854775807, .i (0 - a))
  | _, _ => (False, .junk)
theorem un_xor {k : IntKind} (hk : k.signed = false) (a : BitVec k.bits) : k.wrap ((BitVec.ofInt k.bits k.max ^^^ a).toNat : Int) = ((~~~a).toNat : Int) := by
  have e : BitVec.ofInt k.bits k.max = BitVec.allOnes k.bits := by cases k <;> first | rfl | cases hk
  rw [e, wrap_u hk, ofInt_toNat]
  rw [BitVec.allOnes_xor]
theorem un_xor_run {P : Program} {w : World} {k : IntKind} (hk : k.signed = false) (a : BitVec k.bits) : (Op.unary .xor (.int k a.toNat)).run P w = .ok (.int k ((~~~a).toNat : Int)) w := by
  simp only [Op.unary, Op.intBits, hk, ofInt_toNat, Bool.false_eq_true, if_false, Sem.run_pure, un_xor hk]
theorem rUn_sound {P : Program} {op : UnOp} {x : AV} {c : Cx} {v : Value} (hx : G x c v) (h : (rUn op x).1) :
    ∃ u, (Op.unary op v).run P c.w = .ok u c.w ∧ G (rUn op x).2 c u := by
  unfold rUn at h ⊢
  split at h <;> simp only [G] at hx ⊢ <;> try subst hx
  · exact ⟨_, rfl, rfl⟩
  · exact ⟨_, un_xor_run (k := .u8) rfl _, rfl⟩
  · exact ⟨_, un_xor_run (k := .u16) rfl _, rfl⟩
  · exact ⟨_, un_xor_run (k := .u32) rfl _, rfl⟩
  · exact ⟨_, un_xor_run (k := .u64) rfl _, rfl⟩
  · exact ⟨_, rfl, by rw [wrap_i64 h]⟩
  · exact absurd h id
end Go.Lv
namespace Go.Lv
open Go
def cvInt (d : TD) (x : AV) : R := match d with
  | .i64 => match x with
    | .i n => (-9223372036854775808 ≤ n ∧ n ≤ 9223372036854775807, .i n)
    | .u8 x => (True, .i x.toNat)
    | .u16 x => (True, .i x.toNat)
    | .u32 x => (True, .i x.toNat)
    | .u64 x => (True, .i x.toInt)
    | _ => (False, .junk)
  | .u8 => match x with
    | .i n => (True, .u8 (BitVec.ofInt 8 n))
    | .u8 x => (True, .u8 x)
    | .u16 x => (True, .u8 (x.setWidth 8))
    | .u32 x => (True, .u8 (x.setWidth 8))
    | .u64 x => (True, .u8 (x.setWidth 8))
    | _ => (False, .junk)
  | .u16 => match x with
    | .i n => (True, .u16 (BitVec.ofInt 16 n))
    | .u8 x => (True, .u16 (x.setWidth 16))
    | .u16 x => (True, .u16 x)
    | .u32 x => (True, .u16 (x.setWidth 16))
    | .u64 x => (True, .u16 (x.setWidth 16))
    | _ => (False, .junk)
  | .u32 => match x with
    | .i n => (True, .u32 (BitVec.ofInt 32 n))
    | .u8 x => (True, .u32 (x.setWidth 32))
    | .u16 x => (True, .u32 (x.setWidth 32))
    | .u32 x => (True, .u32 x)
    | .u64 x => (True, .u32 (x.setWidth 32))
    | _ => (False, .junk)
  | .u64 => match x with
    | .i n => (True, .u64 (BitVec.ofInt 64 n))
    | .u8 x => (True, .u64 (x.setWidth 64))
    | .u16 x => (True, .u64 (x.setWidth 64))
    | .u32 x => (True, .u64 (x.setWidth 64))
    | .u64 x => (True, .u64 x)
    | _ => (False, .junk)
  | _ => (False, .junk)
theorem sw {n m : Nat} (x : BitVec n) : BitVec.ofInt m (x.toNat : Int) = x.setWidth m := by
  apply BitVec.eq_of_toNat_eq
  rw [BitVec.ofInt_natCast, BitVec.toNat_ofNat, BitVec.toNat_setWidth]
theorem wrap_toInt (x : BitVec 64) : IntKind.i64.wrap (x.toNat : Int) = x.toInt := by
  have := x.isLt
  simp only [IntKind.wrap, IntKind.bits, IntKind.signed, Bool.true_and, Nat.reduceSub, Int.reducePow, BitVec.toInt]
  split <;> rename_i h <;> simp only [ge_iff_le, decide_eq_true_eq, Int.not_le] at h <;> split <;> omega
theorem cvInt_sound {k : IntKind} {d : TD} {x : AV} {c : Cx} {v : Value} (hd : d.kind = some k) (hx : G x c v) (h : (cvInt d x).1) : ∃ k' n, v = .int k' n ∧ G (cvInt d x).2 c (.int k (k.wrap n)) := by
  cases d <;> simp only [cvInt] at h ⊢ <;> simp only [TD.kind, Option.some.injEq] at hd <;> subst hd
  all_goals cases x <;> simp only at h ⊢ <;> simp only [G] at hx <;> subst hx <;> refine ⟨_, _, rfl, ?_⟩ <;> simp only [G, Value.int.injEq, true_and]
  case i64.i n => exact wrap_i64 h
  case i64.u8 x => exact wrap_i64 (by have := x.isLt; omega)
  case i64.u16 x => exact wrap_i64 (by have := x.isLt; omega)
  case i64.u32 x => exact wrap_i64 (by have := x.isLt; omega)
  case i64.u64 x => exact wrap_toInt x
  all_goals first
    | (exact wrap_u rfl _)
    | (rw [wrap_u rfl]; simp only [IntKind.bits]; rw [ofInt_toNat])
    | (rw [wrap_u rfl]; simp only [IntKind.bits]; rw [sw])
    | (rw [wrap_u rfl]; simp only [IntKind.bits]; rw [ofInt_toNat])
def u8of : AV → UInt8
  | .u8 x => UInt8.ofBitVec x
  | _ => 0
def isU8 : AV → Bool
  | .u8 _ => true
  | _ => false
def baOf (cs : List AV) : ByteArray := ⟨(cs.map u8of).toArray⟩
def rStr (H : List (Nat × Seg)) (x : AV) : R := match x with
  | .nils => (True, .s (baOf []))
  | .ros _ n cs => (cs.length = n ∧ cs.all isU8 = true, .s (baOf cs))
  | .sl id off n _ => match lkf H id with
    | some seg => (off + n ≤ seg.cells.length ∧ ((seg.cells.drop off).take n).all isU8 = true, .s (baOf ((seg.cells.drop off).take n)))
    | none => (False, .junk)
  | _ => (False, .junk)
def n8 : AV → Int
  | .u8 x => x.toNat
  | _ => 0
theorem u8_vals {c : Cx} : ∀ (xs : List AV) (vs : List Value), xs.all isU8 = true → GL xs c vs → vs = (xs.map n8).map (Value.int .u8)
  | [], vs, _, h => by simpa [GL] using h
  | x :: xs, vs, ha, h => by
    simp only [GL] at h
    obtain ⟨u, us, rfl, h1, h2⟩ := h
    simp only [List.all_cons, Bool.and_eq_true] at ha
    cases x <;> simp only [isU8, Bool.false_eq_true, false_and] at ha
    simp only [G] at h1
    subst h1
    rw [u8_vals xs us ha.2 h2]
    rfl
theorem ba_eq : ∀ (xs : List AV), xs.all isU8 = true → (xs.map n8).map (fun n => UInt8.ofNat n.toNat) = xs.map u8of
  | [], _ => rfl
  | x :: xs, ha => by
    simp only [List.all_cons, Bool.and_eq_true] at ha
    cases x <;> simp only [isU8, Bool.false_eq_true, false_and] at ha
    rename_i y
    simp only [List.map_cons, ba_eq xs ha.2, n8, u8of, Int.toNat_natCast]
    congr 1
    apply UInt8.toNat_inj.1
    simp
theorem bts_run {P : Program} {c : Cx} {b o n cap : Nat} {xs : List AV} (hg : GC xs c b o) (hn : xs.length = n) (ha : xs.all isU8 = true) :
    (Conv.bytesToString (.slice (some ⟨b, o, none⟩) n cap)).run P c.w = .ok (.string (baOf xs)) c.w := by
  obtain ⟨vs, h1, h2, _, h4⟩ := GC_vals _ hg
  have hv := u8_vals xs vs ha h4
  have hl : (loadCells ⟨b, o, none⟩ n).run P c.w = .ok ((xs.map n8).map (Value.int .u8)).toArray c.w := by
    rw [← hv, ← hn, ← h1]; exact run_loadVals h2
  rw [run_bytesToString c.w _ _ _ _ hl, foldl_push_bytes]
  congr 2
  rw [ba_eq xs ha]
  simp [baOf]
theorem rStr_sound {P : Program} {H : List (Nat × Seg)} {x : AV} {c : Cx} {v : Value} (hH : HeapOK c H lkf) (hx : G x c v) (h : (rStr H x).1) :
    ∃ u, (Conv.bytesToString v).run P c.w = .ok u c.w ∧ G (rStr H x).2 c u := by
  have nil' : ∀ base, (Conv.bytesToString (.slice base 0 0)).run P c.w = .ok (.string (baOf [])) c.w := by intro base; cases base <;> simp [Conv.bytesToString, baOf, loadCells, loadCellsFrom] <;> rfl
  have nil := nil' none
  unfold rStr at h ⊢
  cases x <;> simp only at h ⊢
  case nils =>
    simp only [G] at hx ⊢
    subst hx
    exact ⟨_, nil, rfl⟩
  case ros fr n cs =>
    simp only [G] at hx ⊢
    rcases hx with ⟨h1, h2, base, rfl⟩ | ⟨b, off, cap, rfl, h1, h2, h3, h4⟩
    · subst h1 h2; exact ⟨_, nil' base, rfl⟩
    · exact ⟨_, bts_run (c := c.ro) h4 h.1 h.2, rfl⟩
  case sl id off n z =>
    cases hs : lkf H id with
    | none => simp [hs] at h
    | some seg =>
      simp only [hs] at h ⊢
      simp only [G] at hx ⊢
      rcases hH id seg hs with ⟨k1, k2⟩ | ⟨b', cells', T', k1, k2, k3⟩
      · rcases hx with ⟨h1, h2, rfl⟩ | ⟨b, o, cap, cells, T, fz, h1, _⟩
        · subst h2; exact ⟨_, nil, by simp⟩
        · rw [k1] at h1; cases h1
      · rcases hx with ⟨h1, h2, rfl⟩ | ⟨b, o, cap, cells, T, fz, h1, h2, h3, h4, h5, rfl⟩
        · rw [k1] at h1; cases h1
        · rw [k1] at h1; cases h1
          by_cases hn : n = 0
          · subst hn
            refine ⟨_, bts_run (c := c) (xs := []) (by simp [GC]) rfl rfl, by simp⟩
          · have ho : o = off := by rcases h4 with h4 | h4 <;> omega
            subst ho
            have hd := GC_drop k3 o
            rw [Nat.zero_add] at hd
            refine ⟨_, bts_run (c := c) (GC_take hd n) ?_ h.2, rfl⟩
            rw [List.length_take, List.length_drop]; have := h.1; omega
def rCv (T : TypeId → TI) (H : List (Nat × Seg)) (src dst : TypeId) (x : AV) : R :=
  match (T dst).d with
  | .str => match (T src).d with
    | .sl e => match (T e).d with
      | .u8 => rStr H x
      | _ => (False, .junk)
    | _ => (False, .junk)
  | d => ((T src).d.ok = true ∧ (cvInt d x).1, (cvInt d x).2)
theorem cvInt_kind {d : TD} {x : AV} (h : (cvInt d x).1) : ∃ k, d.kind = some k := by
  cases d <;> simp only [cvInt] at h <;> exact ⟨_, rfl⟩
theorem rCv_sound {P : Program} {H : List (Nat × Seg)} {src dst : TypeId} {x : AV} {c : Cx} {v : Value} (hH : HeapOK c H lkf) (hx : G x c v) (h : (rCv (tiOf P) H src dst x).1) :
    ∃ u, (convert src dst v).run P c.w = .ok u c.w ∧ G (rCv (tiOf P) H src dst x).2 c u := by
  have num : ∀ d, (tiOf P dst).d = d → ((tiOf P src).d.ok = true ∧ (cvInt d x).1) → ∃ u, (convert src dst v).run P c.w = .ok u c.w ∧ G (cvInt d x).2 c u := by
    rintro d hd ⟨h1, h2⟩
    obtain ⟨k, hk⟩ := cvInt_kind h2
    obtain ⟨k', n, rfl, hg⟩ := cvInt_sound hk hx h2
    obtain ⟨ds, hs, _⟩ := und_some (ok_ne h1)
    have hu := und_int (P := P) (t := dst) (by rw [hd]; exact hk)
    exact ⟨_, by simp [convert, run_underlying hs, run_underlying hu, Conv.intToInt], hg⟩
  unfold rCv at h ⊢
  cases hd : (tiOf P dst).d
  case str =>
    simp only [hd] at h ⊢
    cases hs : (tiOf P src).d <;> simp only [hs] at h ⊢
    rename_i e
    cases he : (tiOf P e).d <;> simp only [he] at h ⊢
    obtain ⟨u, k1, k2⟩ := rStr_sound (P := P) hH hx h
    refine ⟨u, ?_, k2⟩
    have h8 := und_int (P := P) (t := e) (k := .u8) (by rw [he]; rfl)
    have hsl : ∃ a l cc, v = .slice a l cc := by
      cases x <;> simp only [rStr] at h <;> simp only [G] at hx
      case nils => exact ⟨_, _, _, hx⟩
      case ros => rcases hx with ⟨_, _, _, rfl⟩ | ⟨b, o, cap, rfl, _⟩ <;> exact ⟨_, _, _, rfl⟩
      case sl => rcases hx with ⟨_, _, rfl⟩ | ⟨b, o, cap, _, _, _, _, _, _, _, _, rfl⟩ <;> exact ⟨_, _, _, rfl⟩
    obtain ⟨a, l, cc, rfl⟩ := hsl
    rw [run_convert_bytes_string c.w src dst e a l cc (und_sl hs) h8 (und_str hd)]
    exact k1
  all_goals (simp only [hd] at h ⊢; exact num _ hd h)
end Go.Lv
namespace Go.Lv
open Go
structure Ent where
  P : Program
  Gl : List (Nat × List AV)
  w0 : World
  N0 : Nat → Prop
  M : List Nat
  L : List (Nat × Option Nat)
  nt : Nat
  ds : List Deferred
  fb : Nat
def Ent.cx (E : Ent) (w : World) (N : Nat → Prop) (ρ : Nat → Option (Option Nat)) : Cx := ⟨w, N, fun b => E.fb ≤ b, ρ⟩
structure Rel (E : Ent) (s : St) (ρ : Nat → Option (Option Nat)) (N : Nat → Prop) (a : Act) (w : World) : Prop where
  Nlt : ∀ b, N b → b < w.heap.size
  N0 : ∀ b, E.N0 b → N b
  Nfr : ∀ b, N b → E.N0 b ∨ (E.fb ≤ b ∧ (E.w0.heap.size ≤ b ∨ b ∈ E.M))
  glob : ∀ g cs, lkf E.Gl g = some cs → N g ∧ GC cs (E.cx w N ρ).rf g 0
  fr : ∀ t, G (lkd .junk s.F t) (E.cx w N ρ) (a.tmps.getD t undef)
  hp : HeapOK (E.cx w N ρ) s.H lkf
  own : ∀ id seg b, lkf s.H id = some seg → ρ id = some (some b) → ¬ N b ∧ (E.w0.heap.size ≤ b ∨ b ∈ E.M) ∧ (seg.fr = true → E.fb ≤ b)
  inj : ∀ i j b, lkf s.H i ≠ none → lkf s.H j ≠ none → ρ i = some (some b) → ρ j = some (some b) → i = j
  nx : ∀ id, ρ id ≠ none → id < s.nx
  lo : E.w0.heap.size ≤ w.heap.size
  ext : ∀ b, b < E.w0.heap.size → b ∉ E.M → w.heap[b]? = E.w0.heap[b]?
  os : w.os = E.w0.os
  tape : w.tape = E.w0.tape
  output : w.output = E.w0.output
  df : a.defers = E.ds
  sz : a.tmps.size = E.nt
  ln : ∀ p ∈ E.L, ρ p.1 = some p.2
  s0 : ∀ (b : Nat) (c : Array Value) (T : TypeId) (f : Nat × Nat), E.w0.heap[b]? = some (Obj.cells c T f) → ∃ (c' : Array Value) (T' : TypeId) (f' : Nat × Nat), w.heap[b]? = some (Obj.cells c' T' f') ∧ c'.size = c.size
  fbl : E.fb ≤ E.w0.heap.size
def Gam (E : Ent) (s : St) (a : Act) (w : World) : Prop := ∃ ρ N, Rel E s ρ N a w
theorem lkd_put {α : Type} {d : α} (F : List (Nat × α)) (k t : Nat) (v : α) : lkd d ((k, v) :: ers F k) t = if k = t then v else lkd d F t := by
  have he : ∀ (F : List (Nat × α)), k ≠ t → lkd d (ers F k) t = lkd d F t := by
    intro F hne
    induction F with
    | nil => rfl
    | cons p r ih =>
      obtain ⟨j, u⟩ := p
      simp only [ers, lkd]
      by_cases hj : j = k
      · subst hj
        have : Nat.beq j t = false := by cases h : Nat.beq j t; rfl; exact absurd (Nat.eq_of_beq_eq_true h) hne
        simp [this, ih]
      · have hb : Nat.beq j k = false := by cases h : Nat.beq j k; rfl; exact absurd (Nat.eq_of_beq_eq_true h) hj
        simp [hb, lkd, ih]
  simp only [lkd]
  by_cases h : k = t
  · subst h; simp
  · have : Nat.beq k t = false := by cases hb : Nat.beq k t; rfl; exact absurd (Nat.eq_of_beq_eq_true hb) h
    simp [this, h, he F h]
theorem lkf_put {α : Type} (F : List (Nat × α)) (k t : Nat) (v : α) : lkf ((k, v) :: ers F k) t = if k = t then some v else lkf F t := by
  have he : ∀ (F : List (Nat × α)), k ≠ t → lkf (ers F k) t = lkf F t := by
    intro F hne
    induction F with
    | nil => rfl
    | cons p r ih =>
      obtain ⟨j, u⟩ := p
      simp only [ers, lkf]
      by_cases hj : j = k
      · subst hj
        have : Nat.beq j t = false := by cases h : Nat.beq j t; rfl; exact absurd (Nat.eq_of_beq_eq_true h) hne
        simp [this, ih]
      · have hb : Nat.beq j k = false := by cases h : Nat.beq j k; rfl; exact absurd (Nat.eq_of_beq_eq_true h) hj
        simp [hb, lkf, ih]
  simp only [lkf]
  by_cases h : k = t
  · subst h; simp
  · have : Nat.beq k t = false := by cases hb : Nat.beq k t; rfl; exact absurd (Nat.eq_of_beq_eq_true hb) h
    simp [this, h, he F h]
theorem lkf_ers {α : Type} (F : List (Nat × α)) (k t : Nat) : lkf (ers F k) t = if k = t then none else lkf F t := by
  induction F with
  | nil => simp [ers, lkf]
  | cons p r ih =>
    obtain ⟨j, u⟩ := p
    simp only [ers, lkf]
    by_cases hj : j = k
    · subst hj
      simp only [Nat.beq_refl, cond_true, ih]
      by_cases h : j = t
      · simp [h]
      · have : Nat.beq j t = false := by cases hb : Nat.beq j t; rfl; exact absurd (Nat.eq_of_beq_eq_true hb) h
        simp [h, this]
    · have hb : Nat.beq j k = false := by cases h : Nat.beq j k; rfl; exact absurd (Nat.eq_of_beq_eq_true h) hj
      simp only [hb, cond_false, lkf, ih]
      by_cases h : j = t
      · subst h; simp [Ne.symm hj]
      · have : Nat.beq j t = false := by cases hb : Nat.beq j t; rfl; exact absurd (Nat.eq_of_beq_eq_true hb) h
        simp [this]
def St.put (s : St) (d : Nat) (v : AV) : St := { s with F := (d, v) :: ers s.F d }
theorem getD_put (a : Act) (d t : Nat) (v : Value) (hd : d < a.tmps.size) : (a.put (some d) v).tmps.getD t undef = if d = t then v else a.tmps.getD t undef := by
  simp only [Act.put]
  by_cases h : d = t
  · subst h; simp [hd]
  · simp [h, Array.getElem?_setIfInBounds_ne h]
theorem Rel.put {E : Ent} {s : St} {ρ : Nat → Option (Option Nat)} {N : Nat → Prop} {a : Act} {w : World} (r : Rel E s ρ N a w) {d : Nat} (hd : d < E.nt) {x : AV} {v : Value} (hx : G x (E.cx w N ρ) v) :
    Rel E (s.put d x) ρ N (a.put (some d) v) w := by
  refine ⟨r.Nlt, r.N0, r.Nfr, r.glob, fun t => ?_, r.hp, r.own, r.inj, r.nx, r.lo, r.ext, r.os, r.tape, r.output, r.df, ?_, r.ln, r.s0, r.fbl⟩
  · rw [getD_put _ _ _ _ (by rw [r.sz]; exact hd), St.put, lkd_put]
    by_cases h : d = t
    · simp [h, hx]
    · rw [if_neg h, if_neg h]; exact r.fr t
  · simp [Act.put, r.sz]
structure Rel.Next (E : Ent) (s : St) (ρ : Nat → Option (Option Nat)) (N : Nat → Prop) (a : Act) (w : World) (H' : List (Nat × Seg)) (nx' : Nat) (ρ' : Nat → Option (Option Nat)) (N' : Nat → Prop) (w' : World) : Prop where
  le : (E.cx w N ρ).le (E.cx w' N' ρ')
  Nlt : ∀ b, N' b → b < w'.heap.size
  Nfr : ∀ b, N' b → N b ∨ E.w0.heap.size ≤ b
  hp : HeapOK (E.cx w' N' ρ') H' lkf
  own : ∀ id seg b, lkf H' id = some seg → ρ' id = some (some b) → ¬ N' b ∧ (E.w0.heap.size ≤ b ∨ b ∈ E.M) ∧ (seg.fr = true → E.fb ≤ b)
  inj : ∀ i j b, lkf H' i ≠ none → lkf H' j ≠ none → ρ' i = some (some b) → ρ' j = some (some b) → i = j
  nx : ∀ id, ρ' id ≠ none → id < nx'
  lo : w.heap.size ≤ w'.heap.size
  ext : ∀ b, b < E.w0.heap.size → b ∉ E.M → w'.heap[b]? = w.heap[b]?
  os : w'.os = w.os
  tape : w'.tape = w.tape
  output : w'.output = w.output
theorem Rel.next {E : Ent} {s : St} {ρ ρ' : Nat → Option (Option Nat)} {N N' : Nat → Prop} {a : Act} {w w' : World} {H' : List (Nat × Seg)} {nx' : Nat} (r : Rel E s ρ N a w) (n : Rel.Next E s ρ N a w H' nx' ρ' N' w') :
    Rel E { s with H := H', nx := nx' } ρ' N' a w' := by
  refine ⟨n.Nlt, fun b hb => n.le.N b (r.N0 b hb), fun b hb => (n.Nfr b hb).elim (r.Nfr b) fun h => .inr ⟨Nat.le_trans r.fbl h, .inl h⟩, fun g cs h => ?_, fun t => G_mono _ n.le (r.fr t), n.hp, n.own, n.inj, n.nx,
    Nat.le_trans r.lo n.lo, fun b hb hM => (n.ext b hb hM).trans (r.ext b hb hM), n.os.trans r.os, n.tape.trans r.tape, n.output.trans r.output, r.df, r.sz, fun p hp => n.le.ρ _ _ (r.ln p hp), fun b c T f h => (let ⟨c1, T1, f1, h1, h2⟩ := r.s0 b c T f h; let ⟨c2, T2, f2, h3, h4⟩ := n.le.sz b c1 T1 f1 h1; ⟨c2, T2, f2, h3, h4.trans h2⟩), r.fbl⟩
  obtain ⟨h1, h2⟩ := r.glob g cs h
  exact ⟨n.le.N _ h1, GC_ro cs (c := (E.cx w N ρ).rf) (c' := (E.cx w' N' ρ').rf) n.le.toRf h1 h2⟩
theorem Ent.drew_le (E : Ent) (w : World) (N : Nat → Prop) (ρ : Nat → Option (Option Nat)) : (E.cx w N ρ).le (E.cx w.drew N ρ) :=
  ⟨fun _ h => h, fun _ _ => rfl, fun _ _ h => h, fun _ h => h, fun _ c T f h => ⟨c, T, f, h, rfl⟩⟩
theorem Rel.drew {E : Ent} {s : St} {ρ : Nat → Option (Option Nat)} {N : Nat → Prop} {a : Act} {w : World} (r : Rel E s ρ N a w) : Rel E s ρ N a w.drew :=
  r.next (H' := s.H) (nx' := s.nx) ⟨E.drew_le w N ρ, r.Nlt, fun _ h => .inl h,
    fun id seg h => by
      rcases r.hp id seg h with h | ⟨b, c, T, h1, h2, h3⟩
      · exact .inl h
      · exact .inr ⟨b, c, T, h1, h2, GC_mono (E.drew_le w N ρ) (fun _ => rfl) _ h3⟩,
    r.own, r.inj, r.nx, Nat.le_refl _, fun _ _ _ => rfl, rfl, rfl, rfl⟩
def ups (ρ : Nat → Option (Option Nat)) (id : Nat) (b : Option Nat) : Nat → Option (Option Nat) := fun i => if i = id then some b else ρ i
theorem heap_push_lt {w : World} {o : Obj} {b : Nat} (h : b < w.heap.size) : (w.alloc o).heap[b]? = w.heap[b]? := heap_alloc_old w o b h
theorem Rel.alloc_le {E : Ent} {s : St} {ρ : Nat → Option (Option Nat)} {N : Nat → Prop} {a : Act} {w : World} (r : Rel E s ρ N a w) (o : Obj) (x : Option Nat) :
    (E.cx w N ρ).le (E.cx (w.alloc o) N (ups ρ s.nx x)) := by
  refine ⟨fun _ h => h, fun b hb => heap_push_lt (r.Nlt b hb), fun id r' h => ?_, fun _ h => h, fun b c T f h => ⟨c, T, f, ?_, rfl⟩⟩
  · have hne : id ≠ s.nx := by intro e; have := r.nx id (by simp [show ρ id = some r' from h]); omega
    show ups ρ s.nx x id = some r'
    rw [ups, if_neg hne]; exact h
  · have hlt : b < w.heap.size := by
      have := (Array.getElem?_eq_some_iff.1 h).1; exact this
    exact (heap_push_lt hlt).trans h
theorem Rel.alloc {E : Ent} {s : St} {ρ : Nat → Option (Option Nat)} {N : Nat → Prop} {a : Act} {w : World} (r : Rel E s ρ N a w) (cells : Array Value) (T : TypeId) (xs : List AV)
    (hx : ∃ us : List Value, GL xs (E.cx w N ρ) us ∧ (∀ u ∈ us, u.oneCell' = true) ∧ us = cells.toList.take us.length) :
    Rel E { s with H := (s.nx, ⟨xs, true⟩) :: s.H, nx := s.nx + 1 } (ups ρ s.nx (some w.heap.size)) N a (w.alloc (.cells cells T)) := by
  have hle := r.alloc_le (.cells cells T) (some w.heap.size)
  refine r.next ⟨hle, fun b hb => by have := r.Nlt b hb; simp; omega, fun _ h => .inl h, ?_, ?_, ?_, ?_, by simp, fun b hb _ => heap_push_lt (Nat.lt_of_lt_of_le hb r.lo), rfl, rfl, rfl⟩
  · intro id seg h
    simp only [lkf] at h
    cases hb : Nat.beq s.nx id with
    | true =>
      simp only [hb, cond_true, Option.some.injEq] at h
      have e := Nat.eq_of_beq_eq_true hb
      subst e h
      obtain ⟨us, h1, h2, h3⟩ := hx
      refine .inr ⟨w.heap.size, cells, T, by simp [Ent.cx, ups], heap_alloc_new w _, ?_⟩
      rw [GC_iff]
      intro j x hj
      obtain ⟨hl, hg⟩ := (GL_iff _).1 (GL_mono xs hle h1)
      have hjl : j < us.length := by have h9 : j < xs.length := (List.getElem?_eq_some_iff.1 hj).1; omega
      have hu := List.getElem?_eq_getElem hjl
      refine ⟨us[j], ?_, h2 _ (List.getElem_mem hjl), hg j x _ hj hu⟩
      show (w.alloc (.cells cells T)).cell? ⟨w.heap.size, 0 + j, none⟩ = _
      rw [cell?_of (heap_alloc_new w _), Nat.zero_add]
      have : (cells.toList.take us.length)[j]? = some us[j] := by rw [← h3]; exact hu
      rw [List.getElem?_take] at this
      simpa [hjl] using this
    | false =>
      simp only [hb, cond_false] at h
      rcases r.hp id seg h with ⟨h1, h2⟩ | ⟨b, c, T', h1, h2, h3⟩
      · exact .inl ⟨hle.ρ _ _ h1, h2⟩
      · have hlt : b < w.heap.size := (Array.getElem?_eq_some_iff.1 h2).1
        refine .inr ⟨b, c, T', hle.ρ _ _ h1, (heap_push_lt hlt).trans h2, GC_mono hle (fun o => cell_of_heap (heap_push_lt hlt) o) _ h3⟩
  · intro id seg b h hb
    simp only [lkf] at h
    cases hq : Nat.beq s.nx id with
    | true =>
      simp only [hq, cond_true, Option.some.injEq] at h
      have e := Nat.eq_of_beq_eq_true hq
      subst e h
      simp only [ups, if_true, Option.some.injEq] at hb
      subst hb
      exact ⟨fun hN => by have := r.Nlt _ hN; omega, .inl r.lo, fun _ => Nat.le_trans r.fbl r.lo⟩
    | false =>
      simp only [hq, cond_false] at h
      have hne : id ≠ s.nx := by intro e; subst e; simp at hq
      rw [ups, if_neg hne] at hb
      exact r.own id seg b h hb
  · intro i j b hi hj hbi hbj
    have old : ∀ k, lkf s.H k ≠ none → ρ k = some (some b) → b < w.heap.size := by
      intro k hk hbk
      cases hs : lkf s.H k with
      | none => exact absurd hs hk
      | some seg =>
        rcases r.hp k seg hs with ⟨h1, _⟩ | ⟨b', c, T', h1, h2, _⟩
        · rw [show ρ k = some none from h1] at hbk; cases hbk
        · rw [show ρ k = some (some b') from h1] at hbk; cases hbk
          exact (Array.getElem?_eq_some_iff.1 h2).1
    have get : ∀ k, lkf ((s.nx, (⟨xs, true⟩ : Seg)) :: s.H) k ≠ none → ups ρ s.nx (some w.heap.size) k = some (some b) → (k = s.nx ∧ b = w.heap.size) ∨ (k ≠ s.nx ∧ lkf s.H k ≠ none ∧ ρ k = some (some b)) := by
      intro k hk hbk
      by_cases e : k = s.nx
      · subst e; simp only [ups, if_true, Option.some.injEq] at hbk; exact .inl ⟨rfl, hbk.symm⟩
      · rw [ups, if_neg e] at hbk
        have hq : Nat.beq s.nx k = false := by cases hq : Nat.beq s.nx k; rfl; exact absurd (Nat.eq_of_beq_eq_true hq).symm e
        simp only [lkf, hq, cond_false] at hk
        exact .inr ⟨e, hk, hbk⟩
    rcases get i hi hbi with ⟨e1, e2⟩ | ⟨e1, e2, e3⟩ <;> rcases get j hj hbj with ⟨f1, f2⟩ | ⟨f1, f2, f3⟩
    · rw [e1, f1]
    · have := old j f2 f3; omega
    · have := old i e2 e3; omega
    · exact r.inj i j b e2 f2 e3 f3
  · intro id h
    by_cases e : id = s.nx
    · omega
    · rw [ups, if_neg e] at h; have := r.nx id h; omega
theorem Rel.null {E : Ent} {s : St} {ρ : Nat → Option (Option Nat)} {N : Nat → Prop} {a : Act} {w : World} (r : Rel E s ρ N a w) :
    Rel E { s with H := (s.nx, ⟨[], true⟩) :: s.H, nx := s.nx + 1 } (ups ρ s.nx none) N a w := by
  have hle : (E.cx w N ρ).le (E.cx w N (ups ρ s.nx none)) := by
    refine ⟨fun _ h => h, fun _ _ => rfl, fun id r' h => ?_, fun _ h => h, fun b c T f h => ⟨c, T, f, h, rfl⟩⟩
    have hne : id ≠ s.nx := by intro e; have := r.nx id (by simp [show ρ id = some r' from h]); omega
    show ups ρ s.nx none id = some r'
    rw [ups, if_neg hne]; exact h
  have get : ∀ k x, lkf ((s.nx, (⟨[], true⟩ : Seg)) :: s.H) k = some x → (k = s.nx ∧ x = ⟨[], true⟩) ∨ (k ≠ s.nx ∧ lkf s.H k = some x) := by
    intro k x hk
    by_cases e : k = s.nx
    · subst e; simp only [lkf, Nat.beq_refl, cond_true, Option.some.injEq] at hk; exact .inl ⟨rfl, hk.symm⟩
    · have hq : Nat.beq s.nx k = false := by cases hq : Nat.beq s.nx k; rfl; exact absurd (Nat.eq_of_beq_eq_true hq).symm e
      simp only [lkf, hq, cond_false] at hk
      exact .inr ⟨e, hk⟩
  refine r.next ⟨hle, r.Nlt, fun _ h => .inl h, ?_, ?_, ?_, ?_, Nat.le_refl _, fun b hb _ => rfl, rfl, rfl, rfl⟩
  · intro id seg h
    rcases get id seg h with ⟨e, rfl⟩ | ⟨e, h⟩
    · exact .inl ⟨by simp [Ent.cx, ups, e], rfl⟩
    · rcases r.hp id seg h with ⟨h1, h2⟩ | ⟨b, c, T', h1, h2, h3⟩
      · exact .inl ⟨hle.ρ _ _ h1, h2⟩
      · exact .inr ⟨b, c, T', hle.ρ _ _ h1, h2, GC_mono hle (fun _ => rfl) _ h3⟩
  · intro id seg b h hb
    rcases get id seg h with ⟨e, rfl⟩ | ⟨e, h⟩
    · simp [ups, e] at hb
    · rw [ups, if_neg e] at hb; exact r.own id seg b h hb
  · intro i j b hi hj hbi hbj
    cases h1 : lkf ((s.nx, (⟨[], true⟩ : Seg)) :: s.H) i with
    | none => exact absurd h1 hi
    | some x =>
      cases h2 : lkf ((s.nx, (⟨[], true⟩ : Seg)) :: s.H) j with
      | none => exact absurd h2 hj
      | some y =>
        rcases get i x h1 with ⟨e, _⟩ | ⟨e, hx⟩
        · simp [ups, e] at hbi
        · rcases get j y h2 with ⟨e', _⟩ | ⟨e', hy⟩
          · simp [ups, e'] at hbj
          · rw [ups, if_neg e] at hbi; rw [ups, if_neg e'] at hbj
            exact r.inj i j b (by simp [hx]) (by simp [hy]) hbi hbj
  · intro id h
    by_cases e : id = s.nx
    · omega
    · rw [ups, if_neg e] at h; have := r.nx id h; omega
end Go.Lv
namespace Go.Lv
open Go
def spl (cs : List AV) (off : Nat) (xs : List AV) : List AV := match xs with
  | [x] => cs.set off x
  | _ => cs.take off ++ xs ++ cs.drop (off + xs.length)
theorem getElem?_splice {α : Type} (l : List α) (off : Nat) (xs : List α) (h : off ≤ l.length) (j : Nat) :
    (l.take off ++ xs ++ l.drop (off + xs.length))[j]? = if j < off then l[j]? else if j < off + xs.length then xs[j - off]? else l[j]? := by
  have e : min off l.length = off := Nat.min_eq_left h
  simp only [List.getElem?_append, List.length_append, List.length_take, List.getElem?_take, List.getElem?_drop, e]
  by_cases h1 : j < off
  · have h2 : j < off + xs.length := by omega
    rw [if_pos h2, if_pos h1, if_pos h1, if_pos h1]
  · rw [if_neg h1, if_neg h1]
    by_cases h2 : j < off + xs.length
    · rw [if_pos h2, if_pos h2]
    · rw [if_neg h2, if_neg h2]
      congr 1; omega
theorem spl_eq (cs : List AV) (off : Nat) (xs : List AV) (h : off + xs.length ≤ cs.length) (j : Nat) :
    (spl cs off xs)[j]? = if j < off then cs[j]? else if j < off + xs.length then xs[j - off]? else cs[j]? := by
  unfold spl
  split
  · rename_i x
    simp only [List.length_singleton] at h ⊢
    rw [List.getElem?_set]
    by_cases h1 : off = j
    · subst h1; simp; omega
    · rw [if_neg h1]
      by_cases h2 : j < off
      · rw [if_pos h2]
      · rw [if_neg h2, if_neg (by omega)]
  · exact getElem?_splice cs off xs (by omega) j
section
variable {E : Ent} {s : St} {ρ : Nat → Option (Option Nat)} {N : Nat → Prop} {a : Act} {w : World}
theorem Rel.setRow_le (E : Ent) (w : World) (N : Nat → Prop) (ρ : Nat → Option (Option Nat)) {b : Nat} {cur cur' : Array Value} {T : TypeId} {f : Nat × Nat} (hb : w.heap[b]? = some (Obj.cells cur T f)) (hs : cur'.size = cur.size) (hN : ¬ N b) :
    (E.cx w N ρ).le (E.cx (w.setRow b cur') N ρ) := by
  refine ⟨fun _ h => h, fun b' hb' => setRow_other w b b' cur' (by intro e; subst e; exact hN hb'), fun _ _ h => h, fun _ h => h, fun b' c T' f' h => ?_⟩
  by_cases e : b' = b
  · subst e
    rw [show (E.cx w N ρ).w.heap[b']? = w.heap[b']? from rfl, hb] at h
    cases h
    exact ⟨cur', _, _, setRow_heap w b' cur cur' T f hb, hs⟩
  · exact ⟨c, T', f', (setRow_other w b b' cur' e).trans h, rfl⟩
theorem Rel.write (r : Rel E s ρ N a w) {id : Nat} {seg : Seg} (hs : lkf s.H id = some seg) {b : Nat} (hb : ρ id = some (some b)) {cur cur' : Array Value} {T : TypeId} (hc : w.heap[b]? = some (Obj.cells cur T (0, 0)))
    (hsz : cur'.size = cur.size) (cells' : List AV) (hg : ∀ (j : Nat) (x : AV), cells'[j]? = some x → ∃ u, cur'[j]? = some u ∧ u.oneCell' = true ∧ G x (E.cx w N ρ) u) :
    Rel E { s with H := (id, ⟨cells', seg.fr⟩) :: ers s.H id } ρ N a (w.setRow b cur') := by
  obtain ⟨hN, hM, hfr⟩ := r.own id seg b hs hb
  have hle := Rel.setRow_le E w N ρ hc hsz hN
  have get : ∀ k x, lkf ((id, (⟨cells', seg.fr⟩ : Seg)) :: ers s.H id) k = some x → (k = id ∧ x = ⟨cells', seg.fr⟩) ∨ (k ≠ id ∧ lkf s.H k = some x) := by
    intro k x hk
    rw [lkf_put] at hk
    by_cases e : id = k
    · rw [if_pos e] at hk; cases hk; exact .inl ⟨e.symm, rfl⟩
    · rw [if_neg e] at hk; exact .inr ⟨fun h => e h.symm, hk⟩
  refine r.next (nx' := s.nx) ⟨hle, fun b' hb' => by have := r.Nlt b' hb'; simpa using this, fun _ h => .inl h, ?_, ?_, ?_, r.nx, by simp, ?_, rfl, rfl, rfl⟩
  · intro k x hk
    rcases get k x hk with ⟨e, rfl⟩ | ⟨e, hk'⟩
    · subst e
      refine .inr ⟨b, cur', T, hb, setRow_heap w b cur cur' T (0, 0) hc, ?_⟩
      rw [GC_iff]
      intro j y hj
      obtain ⟨u, h1, h2, h3⟩ := hg j y hj
      refine ⟨u, ?_, h2, G_mono _ hle h3⟩
      show (w.setRow b cur').cell? ⟨b, 0 + j, none⟩ = _
      rw [cell?_of (setRow_heap w b cur cur' T (0, 0) hc), Nat.zero_add, h1]
    · rcases r.hp k x hk' with ⟨h1, h2⟩ | ⟨b', c, T', h1, h2, h3⟩
      · exact .inl ⟨h1, h2⟩
      · have hne : b' ≠ b := by
          intro e'; subst e'
          exact e (r.inj k id b' (by simp [hk']) (by simp [hs]) h1 hb)
        have hh := setRow_other w b b' cur' hne
        exact .inr ⟨b', c, T', h1, hh.trans h2, GC_mono hle (fun o => cell_of_heap hh o) _ h3⟩
  · intro k x b' hk hb'
    rcases get k x hk with ⟨e, rfl⟩ | ⟨e, hk'⟩
    · subst e; rw [hb] at hb'; cases hb'; exact ⟨hN, hM, hfr⟩
    · exact r.own k x b' hk' hb'
  · intro i j b' hi hj hbi hbj
    have g : ∀ k, lkf ((id, (⟨cells', seg.fr⟩ : Seg)) :: ers s.H id) k ≠ none → lkf s.H k ≠ none := by
      intro k hk
      rw [lkf_put] at hk
      by_cases e : id = k
      · subst e; simp [hs]
      · rwa [if_neg e] at hk
    exact r.inj i j b' (g i hi) (g j hj) hbi hbj
  · intro b' hlt hM'
    refine setRow_other w b b' cur' ?_
    intro e; subst e
    rcases hM with h | h
    · omega
    · exact hM' h
theorem Rel.rename (r : Rel E s ρ N a w) {id : Nat} {seg : Seg} (hs : lkf s.H id = some seg) {o : Option Nat} (ho : ρ id = some o) :
    Rel E { s with H := (s.nx, seg) :: ers s.H id, nx := s.nx + 1 } (ups ρ s.nx o) N a w := by
  have hid : id < s.nx := r.nx id (by simp [ho])
  have hle : (E.cx w N ρ).le (E.cx w N (ups ρ s.nx o)) := by
    refine ⟨fun _ h => h, fun _ _ => rfl, fun i r' h => ?_, fun _ h => h, fun b c T f h => ⟨c, T, f, h, rfl⟩⟩
    have hne : i ≠ s.nx := by intro e; have := r.nx i (by simp [show ρ i = some r' from h]); omega
    show ups ρ s.nx o i = some r'
    rw [ups, if_neg hne]; exact h
  have get : ∀ k x, lkf ((s.nx, seg) :: ers s.H id) k = some x → (k = s.nx ∧ x = seg) ∨ (k ≠ s.nx ∧ k ≠ id ∧ lkf s.H k = some x) := by
    intro k x hk
    by_cases e : k = s.nx
    · subst e; simp only [lkf, Nat.beq_refl, cond_true, Option.some.injEq] at hk; exact .inl ⟨rfl, hk.symm⟩
    · have hq : Nat.beq s.nx k = false := by cases hq : Nat.beq s.nx k; rfl; exact absurd (Nat.eq_of_beq_eq_true hq).symm e
      simp only [lkf, hq, cond_false] at hk
      rw [lkf_ers] at hk
      by_cases e' : id = k
      · rw [if_pos e'] at hk; cases hk
      · rw [if_neg e'] at hk; exact .inr ⟨e, fun h => e' h.symm, hk⟩
  refine r.next ⟨hle, r.Nlt, fun _ h => .inl h, ?_, ?_, ?_, ?_, Nat.le_refl _, fun b hb _ => rfl, rfl, rfl, rfl⟩
  · intro k x hk
    have old : ∀ i, ρ i = ups ρ s.nx o i ∨ i = s.nx := fun i => by by_cases e : i = s.nx; exact .inr e; exact .inl (by rw [ups, if_neg e])
    rcases get k x hk with ⟨e, rfl⟩ | ⟨e, _, hk'⟩
    · subst e
      have h0 : (E.cx w N (ups ρ s.nx o)).ρ s.nx = some o := by simp [Ent.cx, ups]
      rcases r.hp id x hs with ⟨h1, h2⟩ | ⟨b, c, T', h1, h2, h3⟩
      · have : o = none := by rw [show ρ id = some none from h1] at ho; cases ho; rfl
        subst this; exact .inl ⟨h0, h2⟩
      · have : o = some b := by rw [show ρ id = some (some b) from h1] at ho; cases ho; rfl
        subst this; exact .inr ⟨b, c, T', h0, h2, GC_mono hle (fun _ => rfl) _ h3⟩
    · rcases r.hp k x hk' with ⟨h1, h2⟩ | ⟨b, c, T', h1, h2, h3⟩
      · exact .inl ⟨hle.ρ _ _ h1, h2⟩
      · exact .inr ⟨b, c, T', hle.ρ _ _ h1, h2, GC_mono hle (fun _ => rfl) _ h3⟩
  · intro k x b hk hb
    rcases get k x hk with ⟨e, rfl⟩ | ⟨e, _, hk'⟩
    · subst e; simp only [ups, if_true, Option.some.injEq] at hb; subst hb
      exact r.own id x b hs ho
    · rw [ups, if_neg e] at hb; exact r.own k x b hk' hb
  · intro i j b hi hj hbi hbj
    have rd : ∀ k, lkf ((s.nx, seg) :: ers s.H id) k ≠ none → ups ρ s.nx o k = some (some b) → ∃ k', lkf s.H k' ≠ none ∧ ρ k' = some (some b) ∧ ((k = s.nx ∧ k' = id) ∨ (k ≠ s.nx ∧ k ≠ id ∧ k' = k)) := by
      intro k hk hbk
      cases hx : lkf ((s.nx, seg) :: ers s.H id) k with
      | none => exact absurd hx hk
      | some x =>
        rcases get k x hx with ⟨e, _⟩ | ⟨e, e', hk'⟩
        · subst e; simp only [ups, if_true, Option.some.injEq] at hbk; subst hbk
          exact ⟨id, by simp [hs], ho, .inl ⟨rfl, rfl⟩⟩
        · rw [ups, if_neg e] at hbk; exact ⟨k, by simp [hk'], hbk, .inr ⟨e, e', rfl⟩⟩
    obtain ⟨i', a1, a2, a3⟩ := rd i hi hbi
    obtain ⟨j', b1, b2, b3⟩ := rd j hj hbj
    have e := r.inj i' j' b a1 b1 a2 b2
    rcases a3 with ⟨a3, a4⟩ | ⟨a3, a4, a5⟩ <;> rcases b3 with ⟨b3, b4⟩ | ⟨b3, b4, b5⟩
    · rw [a3, b3]
    · subst a4 b5; exact absurd e.symm b4
    · subst a5 b4; exact absurd e a4
    · subst a5 b5; exact e
  · intro i h
    by_cases e : i = s.nx
    · omega
    · rw [ups, if_neg e] at h; have := r.nx i h; omega
end
end Go.Lv
