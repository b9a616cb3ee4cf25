/- The abstract walk: an own kit for walks over this program (part FE). -/
import Derived.Test.YtffmejeeddplaaaGreatDoorFD
import Derived.Lib.LaidTab
import Derived.JoinedOf
import GoSem.ClaimSeven
import Derived.KernelRfl
set_option linter.all false
namespace Go.Lv
open Go
set_option linter.unusedSimpArgs false
def byteAt (n : BitVec 64) (i : Nat) : BitVec 8 := (n >>> (8 * i)).setWidth 8
def bigL (n : BitVec 64) (k : Nat) : List (BitVec 8) := (List.range k).map fun i => byteAt n (k - 1 - i)
theorem bigL_len (n : BitVec 64) (k : Nat) : (bigL n k).length = k := by simp [bigL]
abbrev W32 := BitVec 32
def rotr (x : W32) (n : Nat) : W32 := x >>> n ||| x <<< (32 - n)
def sg0 (x : W32) : W32 := rotr x 7 ^^^ rotr x 18 ^^^ x >>> 3
def sg1 (x : W32) : W32 := rotr x 17 ^^^ rotr x 19 ^^^ x >>> 10
def be32 (b : List (BitVec 8)) (t : Nat) : W32 :=
  (b.getD (4 * t) 0).setWidth 32 <<< 24 ||| (b.getD (4 * t + 1) 0).setWidth 32 <<< 16 ||| (b.getD (4 * t + 2) 0).setWidth 32 <<< 8 ||| (b.getD (4 * t + 3) 0).setWidth 32
def wNew (b : List (BitVec 8)) (w : List W32) (t : Nat) : W32 :=
  if t < 16 then be32 b t else sg1 (w.getD (t - 2) 0) + w.getD (t - 7) 0 + sg0 (w.getD (t - 15) 0) + w.getD (t - 16) 0
def wK (b : List (BitVec 8)) : Nat → List W32
  | 0 => List.replicate 64 0
  | t + 1 => (wK b t).set t (wNew b (wK b t) t)
theorem wK_len (b : List (BitVec 8)) : ∀ t, (wK b t).length = 64
  | 0 => by simp [wK]
  | t + 1 => by simp [wK, wK_len b t]
structure V8 where
  a : W32
  b : W32
  c : W32
  d : W32
  e : W32
  f : W32
  g : W32
  h : W32
  deriving DecidableEq
def V8.l (v : V8) : List W32 := [v.a, v.b, v.c, v.d, v.e, v.f, v.g, v.h]
def S0 (x : W32) : W32 := rotr x 2 ^^^ rotr x 13 ^^^ rotr x 22
def S1 (x : W32) : W32 := rotr x 6 ^^^ rotr x 11 ^^^ rotr x 25
def chS (e f g : W32) : W32 := (e &&& f) ^^^ (~~~e &&& g)
def majS (a b c : W32) : W32 := (a &&& b) ^^^ (a &&& c) ^^^ (b &&& c)
theorem chS_or (e f g : W32) : (e &&& f) ||| (~~~e &&& g) = chS e f g := by
  apply BitVec.eq_of_getLsbD_eq
  intro i hi
  simp only [chS, BitVec.getLsbD_or, BitVec.getLsbD_and, BitVec.getLsbD_xor, BitVec.getLsbD_not, hi, decide_true, Bool.true_and]
  cases e.getLsbD i <;> cases f.getLsbD i <;> cases g.getLsbD i <;> rfl
theorem majS_or (a b c : W32) : (a &&& b) ||| (a &&& c) ||| (b &&& c) = majS a b c := by
  apply BitVec.eq_of_getLsbD_eq
  intro i hi
  simp only [majS, BitVec.getLsbD_or, BitVec.getLsbD_and, BitVec.getLsbD_xor]
  cases a.getLsbD i <;> cases b.getLsbD i <;> cases c.getLsbD i <;> rfl
def K256 : List W32 := [0x428a2f98, 0x71374491, 0xb5c0fbcf, 0xe9b5dba5, 0x3956c25b, 0x59f111f1, 0x923f82a4, 0xab1c5ed5,
  0xd807aa98, 0x12835b01, 0x243185be, 0x550c7dc3, 0x72be5d74, 0x80deb1fe, 0x9bdc06a7, 0xc19bf174,
  0xe49b69c1, 0xefbe4786, 0x0fc19dc6, 0x240ca1cc, 0x2de92c6f, 0x4a7484aa, 0x5cb0a9dc, 0x76f988da,
  0x983e5152, 0xa831c66d, 0xb00327c8, 0xbf597fc7, 0xc6e00bf3, 0xd5a79147, 0x06ca6351, 0x14292967,
  0x27b70a85, 0x2e1b2138, 0x4d2c6dfc, 0x53380d13, 0x650a7354, 0x766a0abb, 0x81c2c92e, 0x92722c85,
  0xa2bfe8a1, 0xa81a664b, 0xc24b8b70, 0xc76c51a3, 0xd192e819, 0xd6990624, 0xf40e3585, 0x106aa070,
  0x19a4c116, 0x1e376c08, 0x2748774c, 0x34b0bcb5, 0x391c0cb3, 0x4ed8aa4a, 0x5b9cca4f, 0x682e6ff3,
  0x748f82ee, 0x78a5636f, 0x84c87814, 0x8cc70208, 0x90befffa, 0xa4506ceb, 0xbef9a3f7, 0xc67178f2]
def H256 : V8 := ⟨0x6a09e667, 0xbb67ae85, 0x3c6ef372, 0xa54ff53a, 0x510e527f, 0x9b05688c, 0x1f83d9ab, 0x5be0cd19⟩
def rdX (v : V8) (k w : W32) : W32 := v.h + S1 v.e + chS v.e v.f v.g + k + w
def rdY (v : V8) : W32 := S0 v.a + majS v.a v.b v.c
def rd (v : V8) (k w : W32) : V8 := ⟨rdX v k w + rdY v, v.a, v.b, v.c, v.d + rdX v k w, v.e, v.f, v.g⟩
def rdK (s : V8) (w : List W32) : Nat → V8
  | 0 => s
  | t + 1 => rd (rdK s w t) (K256.getD t 0) (w.getD t 0)
def addV (s v : V8) : V8 := ⟨s.a + v.a, s.b + v.b, s.c + v.c, s.d + v.d, s.e + v.e, s.f + v.f, s.g + v.g, s.h + v.h⟩
def cmpS (s : V8) (b : List (BitVec 8)) : V8 := addV s (rdK s (wK b 64) 64)
structure Sh where
  v : V8
  r : List (BitVec 8)
  n : Nat
def hby (s : Sh) (x : BitVec 8) : Sh :=
  if s.n + 1 = 64 then ⟨cmpS s.v (s.r.set s.n x), s.r.set s.n x, 0⟩ else ⟨s.v, s.r.set s.n x, s.n + 1⟩
def hput (s : Sh) (b : List (BitVec 8)) : Sh := b.foldl hby s
def Sh.ok (s : Sh) : Prop := s.r.length = 64 ∧ s.n < 64
theorem hby_ok {s : Sh} (h : s.ok) (x : BitVec 8) : (hby s x).ok := by
  unfold hby
  split
  · exact ⟨by simpa using h.1, by simp⟩
  · exact ⟨by simpa using h.1, by have := h.2; simp only; omega⟩
theorem hput_ok {s : Sh} (h : s.ok) (b : List (BitVec 8)) : (hput s b).ok := by
  induction b generalizing s with
  | nil => exact h
  | cons x b ih => exact ih (hby_ok h x)
theorem hput_app (s : Sh) (a b : List (BitVec 8)) : hput s (a ++ b) = hput (hput s a) b := List.foldl_append
theorem hput_nil (s : Sh) : hput s [] = s := rfl
theorem hput_few : ∀ (b : List (BitVec 8)) (s : Sh), s.ok → s.n + b.length < 64 → hput s b = ⟨s.v, s.r.take s.n ++ b ++ s.r.drop (s.n + b.length), s.n + b.length⟩
  | [], s, _, _ => by simp [hput]
  | x :: b, s, h, hn => by
    have hl := h.1
    rw [List.length_cons] at hn
    have e : hby s x = ⟨s.v, s.r.set s.n x, s.n + 1⟩ := by rw [hby, if_neg (by omega)]
    have ih := hput_few b (hby s x) (hby_ok h x) (by rw [e]; simp only; omega)
    rw [show hput s (x :: b) = hput (hby s x) b from rfl, ih, e]
    simp only [List.length_cons, Sh.mk.injEq, true_and]
    refine ⟨?_, by omega⟩
    rw [List.set_eq_take_append_cons_drop, if_pos (by omega)]
    rw [List.take_append, List.drop_append]
    simp only [List.length_take, Nat.min_eq_left (show s.n ≤ s.r.length by omega)]
    rw [List.take_of_length_le (by simp; omega), show s.n + 1 - s.n = 1 by omega, List.take_succ_cons, List.take_zero,
      List.drop_eq_nil_of_le (by simp; omega), show s.n + 1 + b.length - s.n = b.length + 1 by omega, List.drop_succ_cons, List.drop_drop]
    simp only [List.append_assoc, List.cons_append, List.nil_append]
    rw [show s.n + 1 + b.length = s.n + (b.length + 1) by omega]
theorem hput_full (b : List (BitVec 8)) (s : Sh) (h : s.ok) (hn : s.n + b.length = 64) (hb : b ≠ []) : hput s b = ⟨cmpS s.v (s.r.take s.n ++ b), s.r.take s.n ++ b, 0⟩ := by
  obtain ⟨c, x, rfl⟩ : ∃ c x, b = c ++ [x] := ⟨b.dropLast, b.getLast hb, (List.dropLast_concat_getLast hb).symm⟩
  rw [List.length_append, List.length_singleton] at hn
  have hl := h.1
  rw [hput_app, hput_few c s h (by omega)]
  show hby _ x = _
  rw [hby, if_pos (by simp only; omega)]
  have e : (List.take s.n s.r ++ c ++ List.drop (s.n + c.length) s.r).set (s.n + c.length) x = List.take s.n s.r ++ (c ++ [x]) := by
    rw [List.set_append_right _ _ (by simp; omega), List.length_append, List.length_take, Nat.min_eq_left (show s.n ≤ s.r.length by omega), Nat.sub_self]
    have : List.drop (s.n + c.length) s.r = [s.r.getD (s.n + c.length) 0] := by
      rw [List.drop_eq_getElem_cons (by omega), List.drop_eq_nil_of_le (by omega)]
      simp [List.getD_eq_getElem?_getD, show s.n + c.length < s.r.length by omega]
    rw [this, List.set_cons_zero, List.append_assoc]
  simp only [e]
theorem hput_block (s : Sh) (h : s.ok) (h0 : s.n = 0) (b : List (BitVec 8)) (hb : b.length = 64) : hput s b = ⟨cmpS s.v b, b, 0⟩ := by
  rw [hput_full b s h (by omega) (by intro e; simp [e] at hb), h0, List.take_zero, List.nil_append]
def blks (v : V8) (b : List (BitVec 8)) : Nat → V8
  | 0 => v
  | k + 1 => cmpS (blks v b k) ((b.drop (64 * k)).take 64)
theorem hput_blks (s : Sh) (h : s.ok) (h0 : s.n = 0) (b : List (BitVec 8)) : ∀ k, 64 * k ≤ b.length → (hput s (b.take (64 * k))).v = blks s.v b k ∧ (hput s (b.take (64 * k))).n = 0
  | 0, _ => by simp [hput_nil, blks, h0]
  | k + 1, hk => by
    obtain ⟨h1, h2⟩ := hput_blks s h h0 b k (by omega)
    have e : b.take (64 * (k + 1)) = b.take (64 * k) ++ (b.drop (64 * k)).take 64 := by
      rw [Nat.mul_succ, List.take_add]
    rw [e, hput_app, hput_block _ (hput_ok h _) h2 _ (by simp; omega)]
    exact ⟨by simp only [blks, h1], rfl⟩
def zpad (n : Nat) : Nat := (119 - n % 64) % 64
def padS (t : List (BitVec 8)) : List (BitVec 8) := t ++ [128#8] ++ List.replicate (zpad t.length) 0#8 ++ bigL (8#64 * BitVec.ofNat 64 t.length) 8
def sh0 : Sh := ⟨H256, List.replicate 64 0, 0⟩
theorem sh0_ok : sh0.ok := ⟨by simp [sh0], by simp [sh0]⟩
def outV (v : V8) : List (BitVec 8) := v.l.flatMap fun w => bigL (w.setWidth 64) 4
theorem outV_len (v : V8) : (outV v).length = 32 := by simp [outV, V8.l, bigL_len]
def sha256S (t : List (BitVec 8)) : List (BitVec 8) := outV (hput sh0 (padS t)).v
theorem sha256S_len (t : List (BitVec 8)) : (sha256S t).length = 32 := outV_len _
theorem padS_len (t : List (BitVec 8)) : (padS t).length % 64 = 0 ∧ (padS t).length = t.length + 9 + zpad t.length := by
  have : (padS t).length = t.length + 9 + zpad t.length := by simp [padS, bigL_len]; omega
  refine ⟨?_, this⟩
  rw [this, zpad]
  omega
theorem hput_n (s : Sh) (h : s.ok) (b : List (BitVec 8)) : (hput s b).n = (s.n + b.length) % 64 := by
  induction b generalizing s with
  | nil => have := h.2; simp [hput_nil]; omega
  | cons x b ih =>
    rw [show hput s (x :: b) = hput (hby s x) b from rfl, ih _ (hby_ok h x), List.length_cons]
    have := h.2
    unfold hby
    split <;> simp only <;> omega
end Go.Lv
namespace Go.Lv
open Go
set_option linter.unusedSimpArgs false
abbrev By := List (BitVec 8)
def ends (p : Nat) (f : Nat → By) : By := ((List.range p).map f).flatten
theorem ends_zero (f : Nat → By) : ends 0 f = [] := rfl
theorem ends_succ (p : Nat) (f : Nat → By) : ends (p + 1) f = ends p f ++ f p := by
  simp [ends, List.range_succ]
theorem ends_len {n : Nat} (f : Nat → By) (hf : ∀ i, (f i).length = n) : ∀ p, (ends p f).length = p * n
  | 0 => by simp [ends]
  | p + 1 => by rw [ends_succ, List.length_append, ends_len f hf p, hf, Nat.succ_mul]
def chn (H : By → By) (pre : By) : Nat → Nat → By → By
  | _, 0, x => x
  | j, k + 1, x => chn H pre (j + 1) k (H (pre ++ [BitVec.ofNat 8 j] ++ x))
theorem chn_add (H : By → By) (pre : By) : ∀ (a b j : Nat) (x : By), chn H pre j (a + b) x = chn H pre (j + a) b (chn H pre j a x)
  | 0, b, j, x => by rw [Nat.zero_add]; rfl
  | a + 1, b, j, x => by
    rw [show a + 1 + b = a + b + 1 by omega]
    simp only [chn]
    rw [chn_add H pre a b, show j + 1 + a = j + (a + 1) by omega]
theorem chn_succ (H : By → By) (pre : By) (j k : Nat) (x : By) : chn H pre j (k + 1) x = H (pre ++ [BitVec.ofNat 8 (j + k)] ++ chn H pre j k x) := by
  rw [chn_add]; rfl
theorem chn_len {n : Nat} (H : By → By) (hH : ∀ t, (H t).length = n) (pre : By) (j k : Nat) (x : By) (hx : x.length = n) : (chn H pre j k x).length = n := by
  cases k with
  | zero => exact hx
  | succ k => rw [chn_succ]; exact hH _
def preS (hd : By) (i : Nat) : By := hd ++ bigL (BitVec.ofNat 64 i) 2
def secS (H : By → By) (hd seed : By) (i : Nat) : By := H (preS hd i ++ [255#8] ++ seed)
def shutS (H : By → By) (hd e : By) : By := H (hd ++ bigL 0x8080#64 2 ++ e)
def lpubS (H : By → By) (hd : By) (top p : Nat) (seed : By) : By := shutS H hd (ends p fun i => chn H (preS hd i) 0 top (secS H hd seed i))
end Go.Lv
namespace Go.Lv
open Go
theorem law_callsG {P : Program} {Gl : List (Nat × List AV)} {n : Nat} {as : List AV} {W : World} {args : Array Value} (hf : Fun P Gl n as (.b true)) (hG : ∀ g cs, lkf Gl g = some cs → g < W.heap.size ∧ GC cs (cW W) g 0) (hg : GL as (cW W) args.toList) :
    Calls P n args W fun e W' => e = .returned (.bool true) ∧ Go.RowKit.Below W.heap.size W W' := by
  have := hf.2 W (fun b => b < W.heap.size) args.toList ⟨fun _ h => h, fun g cs h => hG g cs h⟩ hg
  refine Calls.mono this ?_
  rintro e W' ⟨v, N', rfl, p, g⟩
  simp only [G] at g
  exact ⟨by rw [g], p.below⟩
theorem tab_GC {P : Program} {W : World} {name : String} {g : Nat} (hg : P.globalNamed name = some g) (l : List (BitVec 32)) (hl : l ≠ []) (h : Lib.TabIs P W name .u32 (l.map fun x => (x.toNat : Int))) : g < W.heap.size ∧ GC (l.map .u32) (cW W) g 0 := by
  have hc : ∀ i, i < l.length → W.cell? ⟨g, i, none⟩ = some (.int .u32 ((l.getD i 0).toNat : Int)) := by
    intro i hi
    have := h.cell hg i (by simpa using hi)
    rw [this]
    simp [List.getD_eq_getElem?_getD, List.getElem?_map, List.getElem?_eq_getElem hi]
  refine ⟨?_, ?_⟩
  · have h0 := hc 0 (List.length_pos_iff.2 hl)
    simp only [World.cell?] at h0
    rcases Nat.lt_or_ge g W.heap.size with h1 | h1
    · exact h1
    · rw [Array.getElem?_eq_none h1] at h0; cases h0
  · rw [GC_iff]
    intro j x hj
    rw [List.getElem?_map] at hj
    cases hx : l[j]? with
    | none => simp [hx] at hj
    | some y =>
      simp only [hx, Option.map_some, Option.some.injEq] at hj
      subst hj
      have hjl : j < l.length := (List.getElem?_eq_some_iff.1 hx).1
      refine ⟨_, by rw [Nat.zero_add]; exact hc j hjl, rfl, ?_⟩
      simp [G, List.getD_eq_getElem?_getD, hx]
end Go.Lv
namespace Go.Lv
open Go
structure Leaf where
  code : BitVec 32
  id : List (BitVec 8)
  q : BitVec 32
  seed : List (BitVec 8)
def Leaf.c (k : Leaf) : List AV := .u32 k.code :: (k.id.map .u8 ++ [.u32 k.q, Enc.enc k.seed])
structure Leaf.ok (k : Leaf) : Prop where
  id : k.id.length = 16
  seed : k.seed.length ≤ 140737488351232
structure Lway where
  i : Int
  f : Int
  t : Int
def Lway.c (w : Lway) : List AV := [.i w.i, .i w.f, .i w.t]
def i64k (x : Int) : Prop := -9223372036854775808 ≤ x ∧ x ≤ 9223372036854775807
structure Lway.ok (w : Lway) : Prop where
  i : i64k w.i
  f : i64k w.f
  t : i64k w.t
structure Xms where
  code : BitVec 32
  shake : Bool
  n : Int
  h : Int
  len : Int
  deriving DecidableEq
def Xms.c (x : Xms) : List AV := [.u32 x.code, .b x.shake, .i x.n, .i x.h, .i x.len]
structure Xms.ok (x : Xms) : Prop where
  n : i64k x.n
  h : i64k x.h
  len : i64k x.len
structure XKey where
  seed : List (BitVec 8)
  prf : List (BitVec 8)
  pub : List (BitVec 8)
def XKey.c (k : XKey) : List AV := [Enc.enc k.seed, Enc.enc k.prf, Enc.enc k.pub]
structure XKey.ok (k : XKey) : Prop where
  seed : k.seed.length ≤ 140737488351232
  prf : k.prf.length ≤ 140737488351232
  pub : k.pub.length ≤ 140737488351232
end Go.Lv
namespace Go.Lv
open Go
theorem strip_cut (r : List (List Char)) : stripLifts liftWords ("cut".toList :: r) = ([], "cut".toList :: r) := by
  have h : ∀ l : List String, (l.all fun o => !("cut".toList == o.toList)) = true → stripLifts l ("cut".toList :: r) = ([], "cut".toList :: r) := by
    intro l
    induction l with
    | nil => intro _; rfl
    | cons o l ih =>
      intro h
      rw [List.all_cons, Bool.and_eq_true] at h
      have h1 : ("cut".toList == o.toList) = false := by simpa using h.1
      rw [stripLifts, h1]
      exact ih h.2
  exact h liftWords (by decide +kernel)
theorem words_cut {P : Program} {s : String} (h : (wordsSigns P.initOrder.toList).take 3 = ["harness".toList, s.toList, "cut".toList]) (hs : isSumSigns s.toList = true) :
    (∃ r, behindMainWord (wordsSigns P.initOrder.toList) = "cut".toList :: r) ∧ P.mainIs = some (true, s.toList) := by
  unfold Program.mainIs
  generalize wordsSigns P.initOrder.toList = l at h
  match l, h with
  | a :: b :: c :: r, h =>
    simp only [List.take_succ_cons, List.take_zero, List.cons.injEq, and_true] at h
    obtain ⟨rfl, rfl, rfl⟩ := h
    refine ⟨⟨r, ?_⟩, ?_⟩
    · simp only [behindMainWord, hs]; simp
    · simp only [hs]; simp
theorem enter_cut {P : Program} (h : ∃ r, behindMainWord (wordsSigns P.initOrder.toList) = "cut".toList :: r) (h1 : P.laysLater = false) (h2 : P.bearsReflect = false) (h3 : P.doorFits [] = true) : P.mayEnter = true := by
  obtain ⟨r, hr⟩ := h
  unfold Program.mayEnter
  rw [hr]
  simp only [strip_cut, h1, h2, h3]
  simp
theorem lift_cut {P : Program} (h : ∃ r, behindMainWord (wordsSigns P.initOrder.toList) = "cut".toList :: r) : P.liftsFinal = false := by
  obtain ⟨r, hr⟩ := h
  unfold Program.liftsFinal Program.headLifts
  rw [hr]
  simp only [strip_cut]
  simp
theorem make_cut {P : Program} (h : ∃ r, behindMainWord (wordsSigns P.initOrder.toList) = "cut".toList :: r) : P.make = some .cut := by
  obtain ⟨r, hr⟩ := h
  unfold Program.make
  rw [hr]
  simp
theorem joined_cut {P : Program} {f : FuncId} {fn : Func} {s : ChangeSpec} {c : OpenClaim} (hw : ∃ r, behindMainWord (wordsSigns P.initOrder.toList) = "cut".toList :: r) (h1 : P.laysLater = false) (h2 : P.bearsReflect = false) (h3 : P.doorFits [] = true)
    (a1 : c.wf (OpenSpec.ofChange s) = true) (a2 : laidOutB P = true) (a3 : mapsRowed P = true) (a4 : fn.params.all (P.readableRec ·) = true) (a5 : namedTie P c.named s.vars = true)
    (a6 : (c.stops == []) = true) (a7 : (P.stops == []) = true) (a8 : (c.knobs == []) = true) (a9 : (P.stopKnobs == []) = true)
    (a10 : (c.inPlace == P.inPlace f) = true) (a11 : (c.unfollowed == P.unfollowed f) = true) (a12 : (c.recurses == P.recurses f) = true) (a13 : (c.named == P.varsNamed f) = true)
    (a14 : (c.maps == (fn.params.toList ++ s.plain.varTypes P).any (P.mapsRec ·)) = true) (a15 : (c.ifaces == (fn.params.toList ++ s.plain.varTypes P).any (P.ifacesRec ·)) = true) (a16 : (c.mapsOut == P.mapsAmong fn.resultTypes.toList) = true)
    (a17 : (c.loops == (fn.params.toList ++ s.plain.varTypes P).any (P.loopsFrom ·)) = true) (a17b : (c.wideKeys == (fn.params.toList ++ s.plain.varTypes P ++ fn.resultTypes.toList).any (P.wideKeysFrom ·)) = true)
    (a18 : s.vars.all (P.varReadable ·) = true) (a19 : fn.resultTypes.all (fun t => P.readableRec t && decide (t < P.types.size)) = true) (a20 : (c.ifacesOut == fn.resultTypes.toList.any (P.ifacesRec ·)) = true) (a21 : (c.loopsOut == fn.resultTypes.toList.any (P.loopsFrom ·)) = true)
    (a22 : P.plainKeys = true) (b22 : c.plainKeys = true) (a23 : c.shortTexts.isNone = true) (a23b : P.stopsHeard = true) (b24 : c.lifted = false) (b24c : c.make = .cut)
    (a25 : (c.kinds == (if c.domain.isEmpty then [] else fn.params.toList.map fun t => match P.underlying t with | some (.int k) => some k | _ => none)) = true) (a26 : (c.pinned == c.pinnedBy) = true)
    (a27 : (c.veiled == (fn.params.toList ++ s.plain.varTypes P ++ fn.resultTypes.toList).any (P.veiledRec ·)) = true) (a28 : c.veiledFits P fn.params.toList (fn.params.toList ++ s.plain.varTypes P ++ fn.resultTypes.toList) = true) : joinedFacts P f fn s c = true := by
  have a24 := enter_cut hw h1 h2 h3
  have a24b : (c.lifted == P.liftsFinal) = true := by rw [b24, lift_cut hw]; rfl
  have a24c : (P.make == some c.make) = true := by rw [make_cut hw, b24c]; rfl
  have a22' : (c.plainKeys == P.plainKeys) = true := by rw [a22, b22]; rfl
  simp only [joinedFacts, Bool.and_eq_true]
  exact ⟨⟨⟨⟨⟨⟨⟨⟨⟨⟨⟨⟨⟨⟨⟨⟨⟨⟨⟨⟨⟨⟨⟨⟨⟨⟨⟨⟨⟨⟨⟨a1, a2⟩, a3⟩, a4⟩, a5⟩, a6⟩, a7⟩, a8⟩, a9⟩, a10⟩, a11⟩, a12⟩, a13⟩, a14⟩, a15⟩, a16⟩, a17⟩, a17b⟩, a18⟩, a19⟩, a20⟩, a21⟩, a22'⟩, a23⟩, a23b⟩, a24⟩, a24b⟩, a24c⟩, a25⟩, a26⟩, a27⟩, a28⟩
end Go.Lv
namespace Go.Lv
open Go
def frzF (H1 : List (Nat × Seg)) (F : List (Nat × AV)) : List Nat → List (Nat × AV)
  | [] => F
  | t :: ts => (t, frz H1 8 true (lkd .junk F t)) :: frzF H1 F ts
theorem frzF_get (H1 : List (Nat × Seg)) (F : List (Nat × AV)) : ∀ (ts : List Nat) (t : Nat), lkd .junk (frzF H1 F ts) t = lkd .junk F t ∨ lkd .junk (frzF H1 F ts) t = frz H1 8 true (lkd .junk F t)
  | [], t => .inl rfl
  | u :: ts, t => by
    simp only [frzF, lkd]
    cases hb : Nat.beq u t with
    | true => have := Nat.eq_of_beq_eq_true hb; subst this; exact .inr rfl
    | false => exact frzF_get H1 F ts t
theorem AW_freeze {κ : Kt} {l : List C} {k : Stk} {s : St} (id : Nat) (ts : List Nat) {seg : Seg} (hs : lkf s.H id = some seg) (hfr : seg.fr = true)
    (h : AW κ l k ⟨frzF [(id, seg)] s.F ts, ers s.H id, s.nx⟩) : AW κ l k s := by
  intro E hE a w ⟨ρ, N, r⟩
  have h1 : lkf [(id, seg)] id = some seg := by simp [lkf]
  have hone : ∀ j sg, lkf [(id, seg)] j = some sg → j = id ∧ sg = seg := by
    intro j sg hj
    simp only [lkf] at hj
    cases hb : Nat.beq id j with
    | true => have := Nat.eq_of_beq_eq_true hb; subst this; simp only [hb, cond_true, Option.some.injEq] at hj; exact ⟨rfl, hj.symm⟩
    | false => simp [hb] at hj
  let N' : Nat → Prop := fun b => N b ∨ ∃ j sg, lkf [(id, seg)] j = some sg ∧ ρ j = some (some b)
  have hN' : ∀ b, N' b → N b ∨ ρ id = some (some b) := by
    rintro b (h | ⟨j, sg, k1, k2⟩)
    · exact .inl h
    · obtain ⟨rfl, _⟩ := hone j sg k1; exact .inr k2
  have hblk : ∀ b, ρ id = some (some b) → b < w.heap.size ∧ E.fb ≤ b ∧ (E.w0.heap.size ≤ b ∨ b ∈ E.M) := by
    intro b hb
    refine ⟨?_, (r.own _ seg b hs hb).2.2 hfr, (r.own _ seg b hs hb).2.1⟩
    rcases r.hp _ seg hs with ⟨h5, _⟩ | ⟨b', c, T, h5, h6, _⟩
    · rw [show ρ id = some none from h5] at hb; cases hb
    · rw [show ρ id = some (some b') from h5] at hb; cases hb
      exact (Array.getElem?_eq_some_iff.1 h6).1
  have cle : (E.cx w N ρ).le (E.cx w N' ρ) := ⟨fun _ h => .inl h, fun _ _ => rfl, fun _ _ h => h, fun _ h => h, fun _ c T f h => ⟨c, T, f, h, rfl⟩⟩
  have old : ∀ j sg, lkf (ers s.H id) j = some sg → j ≠ id ∧ lkf s.H j = some sg := by
    intro j sg hj
    rw [lkf_ers] at hj
    by_cases e : id = j
    · rw [if_pos e] at hj; cases hj
    · rw [if_neg e] at hj; exact ⟨fun h => e h.symm, hj⟩
  have old' : ∀ j, lkf (ers s.H id) j ≠ none → lkf s.H j ≠ none := by
    intro j hj
    rw [lkf_ers] at hj
    by_cases e : id = j
    · rw [if_pos e] at hj; exact absurd rfl hj
    · rwa [if_neg e] at hj
  refine h E hE a w ⟨ρ, N', ⟨?_, fun b hb => .inl (r.N0 b hb), ?_, ?_, ?_, ?_, ?_, fun i j b hi hj => r.inj i j b (old' i hi) (old' j hj), r.nx, r.lo, r.ext, r.os, r.tape, r.output, r.df, r.sz, r.ln, r.s0, r.fbl⟩⟩
  · intro b hb
    rcases hN' b hb with h | h
    · exact r.Nlt b h
    · exact (hblk b h).1
  · intro b hb
    rcases hN' b hb with h | h
    · exact r.Nfr b h
    · exact .inr (hblk b h).2
  · intro g cs h
    obtain ⟨h1, h2⟩ := r.glob g cs h
    exact ⟨.inl h1, GC_ro cs (c := (E.cx w N ρ).rf) (c' := (E.cx w N' ρ).rf) cle.toRf h1 h2⟩
  · intro t
    rcases frzF_get [(id, seg)] s.F ts t with e | e
    · rw [e]; exact G_mono _ cle (r.fr t)
    · rw [e]
      have hp : HeapOK (E.cx w N ρ) [(id, seg)] lkf := by
        intro j sg hj
        obtain ⟨rfl, rfl⟩ := hone j sg hj
        exact r.hp _ _ hs
      have hfr2 : ∀ j sg b, lkf [(id, seg)] j = some sg → (E.cx w N ρ).ρ j = some (some b) → sg.fr = true → (E.cx w N ρ).Fb b := by
        intro j sg b hj hb _
        obtain ⟨rfl, rfl⟩ := hone j sg hj
        exact (hblk b hb).2.1
      have := frz_sound hp hfr2 8 true _ _ _ (.inl rfl) (r.fr t)
      exact G_mono (c := (E.cx w N ρ).rd [(id, seg)] true) (c' := E.cx w N' ρ) _ ⟨fun _ h => h, fun _ _ => rfl, fun _ _ h => (by simp [Cx.rd] at h), fun _ h => h.2, fun _ c T f h => ⟨c, T, f, h, rfl⟩⟩ this
  · intro j sg h
    obtain ⟨_, h2⟩ := old j sg h
    rcases r.hp j sg h2 with h | ⟨b, c, T, q1, q2, q3⟩
    · exact .inl h
    · exact .inr ⟨b, c, T, q1, q2, GC_mono cle (fun _ => rfl) _ q3⟩
  · intro j sg b h hb
    obtain ⟨h1', h2⟩ := old j sg h
    obtain ⟨o1, o2, o3⟩ := r.own j sg b h2 hb
    refine ⟨fun hn => ?_, o2, o3⟩
    rcases hN' b hn with h3 | h3
    · exact o1 h3
    · exact h1' (r.inj j id b (by simp [h2]) (by simp [hs]) hb h3)
def A5 {α β γ δ ε : Type} [Enc α] [Enc β] [Enc γ] [Enc δ] [Enc ε] (f : α → β → γ → δ → ε → R) : List AV → R
  | [a, b, c, d, e] => (Enc.ok α a ∧ Enc.ok β b ∧ Enc.ok γ c ∧ Enc.ok δ d ∧ Enc.ok ε e ∧ (f (Enc.dec a) (Enc.dec b) (Enc.dec c) (Enc.dec d) (Enc.dec e)).1, (f (Enc.dec a) (Enc.dec b) (Enc.dec c) (Enc.dec d) (Enc.dec e)).2)
  | _ => (False, .junk)
theorem Row5 {P : Program} {Gl : List (Nat × List AV)} {n : Nat} {α β γ δ ε : Type} [Enc α] [Enc β] [Enc γ] [Enc δ] [Enc ε] {f : α → β → γ → δ → ε → R} (h : ∀ x0 x1 x2 x3 x4, (f x0 x1 x2 x3 x4).1 → Fun P Gl n [Enc.enc x0, Enc.enc x1, Enc.enc x2, Enc.enc x3, Enc.enc x4] (f x0 x1 x2 x3 x4).2) : Row P Gl n (A5 f) := by
  intro l ha
  unfold A5 at ha ⊢
  split at ha
  · obtain ⟨h0, h1, h2, h3, h4, hf⟩ := ha
    have := h _ _ _ _ _ hf
    rw [← Enc.sound _ h0, ← Enc.sound _ h1, ← Enc.sound _ h2, ← Enc.sound _ h3, ← Enc.sound _ h4] at this
    exact this
  · exact ha.elim
attribute [go_sem] A5
def A7 {α β γ δ ε ζ η : Type} [Enc α] [Enc β] [Enc γ] [Enc δ] [Enc ε] [Enc ζ] [Enc η] (f : α → β → γ → δ → ε → ζ → η → R) : List AV → R
  | [a, b, c, d, e, g, i] => (Enc.ok α a ∧ Enc.ok β b ∧ Enc.ok γ c ∧ Enc.ok δ d ∧ Enc.ok ε e ∧ Enc.ok ζ g ∧ Enc.ok η i ∧ (f (Enc.dec a) (Enc.dec b) (Enc.dec c) (Enc.dec d) (Enc.dec e) (Enc.dec g) (Enc.dec i)).1, (f (Enc.dec a) (Enc.dec b) (Enc.dec c) (Enc.dec d) (Enc.dec e) (Enc.dec g) (Enc.dec i)).2)
  | _ => (False, .junk)
theorem Row7 {P : Program} {Gl : List (Nat × List AV)} {n : Nat} {α β γ δ ε ζ η : Type} [Enc α] [Enc β] [Enc γ] [Enc δ] [Enc ε] [Enc ζ] [Enc η] {f : α → β → γ → δ → ε → ζ → η → R} (h : ∀ x0 x1 x2 x3 x4 x5 x6, (f x0 x1 x2 x3 x4 x5 x6).1 → Fun P Gl n [Enc.enc x0, Enc.enc x1, Enc.enc x2, Enc.enc x3, Enc.enc x4, Enc.enc x5, Enc.enc x6] (f x0 x1 x2 x3 x4 x5 x6).2) : Row P Gl n (A7 f) := by
  intro l ha
  unfold A7 at ha ⊢
  split at ha
  · obtain ⟨h0, h1, h2, h3, h4, h5, h6, hf⟩ := ha
    have := h _ _ _ _ _ _ _ hf
    rw [← Enc.sound _ h0, ← Enc.sound _ h1, ← Enc.sound _ h2, ← Enc.sound _ h3, ← Enc.sound _ h4, ← Enc.sound _ h5, ← Enc.sound _ h6] at this
    exact this
  · exact ha.elim
attribute [go_sem] A7
structure Lf where
  o : Ots
  hd : List (BitVec 8)
def Lf.is : AV → Prop
  | .agg [.u32 _, .b _, .i _, .i _, .i _, .i _, h] => Enc.ok (List (BitVec 8)) h
  | _ => False
def Lf.of : AV → Lf
  | .agg [.u32 c, .b s, .i n, .i w, .i p, .i ls, h] => ⟨⟨c, s, n, w, p, ls⟩, Enc.dec h⟩
  | _ => ⟨⟨0, false, 0, 0, 0, 0⟩, []⟩
instance : Enc Lf where
  enc x := .agg [.u32 x.o.code, .b x.o.shake, .i x.o.n, .i x.o.w, .i x.o.p, .i x.o.ls, Enc.enc x.hd]
  ret x := .agg [.u32 x.o.code, .b x.o.shake, .i x.o.n, .i x.o.w, .i x.o.p, .i x.o.ls, Enc.ret x.hd]
  ok := Lf.is
  dec := Lf.of
  dflt := ⟨⟨0, false, 0, 0, 0, 0⟩, []⟩
  d := Enc.d (List (BitVec 8)) + 1
  sound x h := by
    unfold Lf.is at h
    split at h
    · have := Enc.sound _ h
      simp only [Lf.of]; rw [← this]
    · exact h.elim
  fz H k x h := by
    obtain ⟨k, rfl⟩ := Nat.exists_eq_add_of_le' h
    obtain ⟨h1, h2, h3, h4⟩ := Enc.fz H (k + Enc.d (List (BitVec 8))) x.hd (by omega)
    rw [← Nat.add_assoc]
    have hk : k + Enc.d (List (BitVec 8)) = k + 1 + 1 := rfl
    simp only [frz, List.map_cons, List.map_nil, h1, h2, h3, h4]
    rw [hk]
    exact ⟨rfl, rfl, rfl, rfl⟩
  ow x := by
    obtain ⟨h1, h2⟩ := Enc.ow x.hd
    simp [own, own.ownL, h1, h2]
  cl x := by simp [cln, cln.clnL, Enc.cl x.hd]
  rn m x := by
    obtain ⟨h1, h2⟩ := Enc.rn m x.hd
    simp [ren, ren.renL, h1, h2]
  ik n x := by
    obtain ⟨h1, h2⟩ := Enc.ik n x.hd
    constructor <;> simp [idk, idk.idkL, h1, h2]
@[go_sem] theorem enc_lf (x : Lf) : Enc.enc x = .agg [.u32 x.o.code, .b x.o.shake, .i x.o.n, .i x.o.w, .i x.o.p, .i x.o.ls, Enc.enc x.hd] := rfl
@[go_sem] theorem ret_lf (x : Lf) : Enc.ret x = .agg [.u32 x.o.code, .b x.o.shake, .i x.o.n, .i x.o.w, .i x.o.p, .i x.o.ls, Enc.ret x.hd] := rfl
@[go_sem] theorem ok_lf (c : BitVec 32) (s : Bool) (n w p ls : Int) (h : AV) : Enc.ok Lf (.agg [.u32 c, .b s, .i n, .i w, .i p, .i ls, h]) = Enc.ok (List (BitVec 8)) h := rfl
@[go_sem] theorem dec_lf (c : BitVec 32) (s : Bool) (n w p ls : Int) (h : AV) : (Enc.dec (.agg [.u32 c, .b s, .i n, .i w, .i p, .i ls, h]) : Lf) = ⟨⟨c, s, n, w, p, ls⟩, Enc.dec h⟩ := rfl
end Go.Lv
