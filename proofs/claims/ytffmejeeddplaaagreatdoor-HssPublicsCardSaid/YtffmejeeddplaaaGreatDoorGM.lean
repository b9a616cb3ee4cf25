/- A part of the proof (GM). -/
import Derived.Test.YtffmejeeddplaaaGreatDoorGL
import Derived.Test.YtffmejeeddplaaaGreatDoorGX
import Derived.Test.YtffmejeeddplaaaGreatDoorGK
import Derived.Test.YtffmejeeddplaaaGreatDoorHz
import Derived.Test.YtffmejeeddplaaaGreatDoorFH
set_option linter.all false
namespace Go.Lv
open Go Go.Proofs
set_option linter.unusedSimpArgs false
set_option maxRecDepth 100000
def AK0 (K : AV) (r : R) : List AV → R
  | [k] => (k = K ∧ r.1, r.2)
  | _ => (False, .junk)
def AK1 {α : Type} [Enc α] (K : AV) (f : α → R) : List AV → R
  | [k, a] => (k = K ∧ Enc.ok α a ∧ (f (Enc.dec a)).1, (f (Enc.dec a)).2)
  | _ => (False, .junk)
def AK2 {α β : Type} [Enc α] [Enc β] (K : AV) (f : α → β → R) : List AV → R
  | [k, a, b] => (k = K ∧ Enc.ok α a ∧ Enc.ok β b ∧ (f (Enc.dec a) (Enc.dec b)).1, (f (Enc.dec a) (Enc.dec b)).2)
  | _ => (False, .junk)
def AK3 {α β γ : Type} [Enc α] [Enc β] [Enc γ] (K : AV) (f : α → β → γ → R) : List AV → R
  | [k, a, b, c] => (k = K ∧ Enc.ok α a ∧ Enc.ok β b ∧ Enc.ok γ c ∧ (f (Enc.dec a) (Enc.dec b) (Enc.dec c)).1, (f (Enc.dec a) (Enc.dec b) (Enc.dec c)).2)
  | _ => (False, .junk)
attribute [go_sem] AK0 AK1 AK2 AK3
section
variable {P : Program} {Gl : List (Nat × List AV)} {n : Nat} {K : AV}
theorem RowK0 {r : R} (h : r.1 → Fun P Gl n [K] r.2) : Row P Gl n (AK0 K r) := by
  intro az ha
  unfold AK0 at ha ⊢
  split at ha
  · obtain ⟨rfl, h2⟩ := ha; exact h h2
  · exact ha.elim
theorem RowK1 {α : Type} [Enc α] {f : α → R} (h : ∀ x, (f x).1 → Fun P Gl n [K, Enc.enc x] (f x).2) : Row P Gl n (AK1 K f) := by
  intro az ha
  unfold AK1 at ha ⊢
  split at ha
  · obtain ⟨rfl, h1, h2⟩ := ha
    have := h _ h2
    rw [← Enc.sound _ h1] at this
    exact this
  · exact ha.elim
theorem RowK2 {α β : Type} [Enc α] [Enc β] {f : α → β → R} (h : ∀ x y, (f x y).1 → Fun P Gl n [K, Enc.enc x, Enc.enc y] (f x y).2) : Row P Gl n (AK2 K f) := by
  intro az ha
  unfold AK2 at ha ⊢
  split at ha
  · obtain ⟨rfl, h1, h2, h3⟩ := ha
    have := h _ _ h3
    rw [← Enc.sound _ h1, ← Enc.sound _ h2] at this
    exact this
  · exact ha.elim
theorem RowK3 {α β γ : Type} [Enc α] [Enc β] [Enc γ] {f : α → β → γ → R} (h : ∀ x y z, (f x y z).1 → Fun P Gl n [K, Enc.enc x, Enc.enc y, Enc.enc z] (f x y z).2) : Row P Gl n (AK3 K f) := by
  intro az ha
  unfold AK3 at ha ⊢
  split at ha
  · obtain ⟨rfl, h1, h2, h4, h3⟩ := ha
    have := h _ _ _ h3
    rw [← Enc.sound _ h1, ← Enc.sound _ h2, ← Enc.sound _ h4] at this
    exact this
  · exact ha.elim
end
end Go.Lv
namespace Go.Lv
open Go Go.Proofs
set_option linter.unusedSimpArgs false
set_option maxRecDepth 100000
@[go_sem] theorem fz_u8 (H : List (Nat × Seg)) (j : Nat) (fl : Bool) : frz H (j + 1) fl ∘ AV.u8 = AV.u8 := rfl
@[go_sem] theorem id_t17 (d : By) (x : AV) (h : d.length = 16) : (d.map AV.u8 ++ [x]).take 17 = d.map .u8 ++ [x] := List.take_of_length_le (by simp [h])
@[go_sem] theorem id_t16 (d : By) (x : AV) (h : d.length = 16) : (d.map AV.u8 ++ [x]).take 16 = d.map .u8 := List.take_left' (by simp [h])
@[go_sem] theorem id_d16 (d : By) (x : AV) (h : d.length = 16) : (d.map AV.u8 ++ [x]).drop 16 = [x] := List.drop_left' (by simp [h])
@[go_sem] theorem id_g16 (d : By) (x : AV) (h : d.length = 16) : (d.map AV.u8 ++ [x]).getD 16 .junk = x := by simp [List.getD_eq_getElem?_getD, List.getElem?_append, h]
def lkC (k : LK) : List AV := [.u32 k.l.code, .b k.l.shake, .i k.l.n, .i k.l.h, .u32 k.o.code, .b k.o.shake, .i k.o.n, .i k.o.w, .i k.o.p, .i k.o.ls] ++ (k.id.map .u8 ++ [Enc.enc k.sd])
def lkR (k : LK) : List AV := [.u32 k.l.code, .b k.l.shake, .i k.l.n, .i k.l.h, .u32 k.o.code, .b k.o.shake, .i k.o.n, .i k.o.w, .i k.o.p, .i k.o.ls] ++ (k.id.map .u8 ++ [Enc.ret k.sd])
structure LKf (k : LK) : Prop where
  f : fitP k.l k.o
  i : k.id.length = 16
theorem LKok.kf {k : LK} (h : LKok k) : LKf k := ⟨h.f, h.i⟩
theorem LKf.o {k : LK} (h : LKf k) : OtsOK k.o := otsT_ok h.f.2.1
theorem LKf.ot {k : LK} (h : LKf k) : otsT k.o.code = some k.o := h.f.2.1
theorem LKf.lm {k : LK} (h : LKf k) : lmsT k.l.code = some k.l := h.f.1
theorem LKf.n {k : LK} (h : LKf k) : k.l.n = k.o.n := h.f.2.2.2
theorem LKf.sm {k : LK} (h : LKf k) : 0 ≤ k.l.h ∧ k.l.h ≤ 25 ∧ 0 ≤ k.l.n ∧ k.l.n ≤ 32 := lmsT_sm h.lm
theorem pw_one (n : Nat) : (1 : BitVec 64) <<< n = pw n := by
  apply BitVec.eq_of_toNat_eq
  rw [pw, BitVec.toNat_shiftLeft, BitVec.toNat_ofNat, Nat.shiftLeft_eq]
  simp
def K (k : LK) : AV := .agg (lkC k)
theorem lleaves_fun (k : LK) (hk : LKf k) : Fun Tryz.prog Gs 147 [K k] (.u64 (pw k.l.h.toNat)) := by
  have hs := hk.sm
  have h1 := pw_one k.l.h.toNat
  refine Fun_cc [] mo Tryz.func147 (by decide) cc147 rs147 Tryz.ntmps147 (by simp) (AW_run CtOK_nil 1000 ?_)
  simp (maxSteps := 10000000) (disch := omega) only [go_sem, c147, K, lkC, h1, reduceIte, seval, -BitVec.isValue, -BitVec.reduceOfNat, -List.reduceReplicate]
  try simp
def ctKLeaves (k : LK) : Nat × (List AV → R) := (147, AK0 (K k) (LKf k, .u64 (pw k.l.h.toNat)))
theorem ctKLeaves_ok {k : LK} {Ct : List (Nat × (List AV → R))} (h : CtOK Tryz.prog Gs Ct) : CtOK Tryz.prog Gs (ctKLeaves k :: Ct) := CtOK_cons (RowK0 fun h => lleaves_fun k h) h
theorem lhash_fun (k : LK) (ps : List By) (hk : LKf k) (hb : bbOK ps) (hl : ps.flatten.length ≤ 4611686018427387904) : Fun Tryz.prog Gs 201 [K k, Enc.enc ps] (Enc.ret (hO k.o ps.flatten)) := by
  have hR : HashR k.o ps.flatten = Enc.ret (hO k.o ps.flatten) := hR hk.ot ps.flatten
  have hct := ctHash_ok (CtOK_nil (P := Tryz.prog) (Gl := Gs))
  refine Fun_cc _ mo Tryz.func201 (by decide) cc201 rs201 Tryz.ntmps201 (by simp) (AW_run hct 1000 ?_)
  simp (maxSteps := 10000000) (disch := omega) only [go_sem, c201, K, lkC, ctHash, hb, hl, hR, reduceIte, seval, -BitVec.isValue, -BitVec.reduceOfNat, -List.reduceReplicate]
  try simp
def ctKHash (k : LK) : Nat × (List AV → R) := (201, AK1 (K k) fun ps : List By => (LKf k ∧ bbOK ps ∧ ps.flatten.length ≤ 4611686018427387904, Enc.ret (hO k.o ps.flatten)))
theorem ctKHash_ok {k : LK} {Ct : List (Nat × (List AV → R))} (h : CtOK Tryz.prog Gs Ct) : CtOK Tryz.prog Gs (ctKHash k :: Ct) := CtOK_cons (RowK1 fun ps h => lhash_fun k ps h.1 h.2.1 h.2.2) h
theorem bb5 (a b c d e : By) (ha : a.length ≤ 140737488351232) (hb : b.length ≤ 140737488351232) (hc : c.length ≤ 140737488351232) (hd : d.length ≤ 140737488351232) (he : e.length ≤ 140737488351232) : bbOK [a, b, c, d, e] := by
  refine ⟨by simp, fun x hx => ?_⟩
  simp only [List.mem_cons, List.not_mem_nil, or_false] at hx
  rcases hx with rfl | rfl | rfl | rfl | rfl <;> assumption
set_option maxHeartbeats 1000000 in
theorem lnode_fun (k : LK) (r : BitVec 32) (a b : By) (hk : LKf k) (ha : a.length ≤ 1000000) (hb : b.length ≤ 1000000) : Fun Tryz.prog Gs 200 [K k, Enc.enc r, Enc.enc a, Enc.enc b] (Enc.ret (ndS k.o k.id r a b)) := by
  have hi := hk.i
  have h4 := bigL_len (r.setWidth 64) 4
  have hdl := hd_len (q := r) hi
  have h2 := bigL_len (0x8383#64) 2
  have hit : k.id.take 16 = k.id := List.take_of_length_le (by omega)
  have hf : [k.id, bigL (r.setWidth 64) 4, bigL 0x8383#64 2, a, b].flatten = hdS k.id r ++ bigL 0x8383#64 2 ++ (a ++ b) := by simp [hdS]
  have hfl : (hdS k.id r ++ bigL 0x8383#64 2 ++ (a ++ b)).length ≤ 4611686018427387904 := by simp [hdS, h4, h2]; omega
  have hR : hO k.o (hdS k.id r ++ bigL 0x8383#64 2 ++ (a ++ b)) = ndS k.o k.id r a b := rfl
  have hbb := bb5 k.id (bigL (r.setWidth 64) 4) (bigL 0x8383#64 2) a b (by omega) (by omega) (by omega) (by omega) (by omega)
  have hct := mark_ok 17 (ctU32_ok (ctU16_ok (ctKHash_ok (k := k) (CtOK_nil (P := Tryz.prog) (Gl := Gs)))))
  refine Fun_cc [mark 17, ctU32, ctU16, ctKHash k] mo Tryz.func200 (by decide) cc200 rs200 Tryz.ntmps200 (by simp) (AW_ct [] (AW_run CtOK_nil 2 ?_))
  simp (maxSteps := 10000000) (disch := omega) only [go_sem, c200, K, lkC, reduceIte, seval, -BitVec.isValue, -BitVec.reduceOfNat, -List.reduceReplicate]
  refine AW_freeze 0 [4] (seg := ⟨lkC k, true⟩) (by simp only [go_sem, lkC, reduceIte, seval, -BitVec.isValue, -BitVec.reduceOfNat, -List.reduceReplicate]) rfl (AW_ct [mark 17, ctU32, ctU16, ctKHash k] (AW_run hct 1000 ?_))
  simp (maxSteps := 10000000) (disch := omega) only [go_sem, frzF, lkC, K, mark, ctU32, ctU16, ctKHash, hi, hit, hf, h4, h2, hk, hbb, hdl, hR, deL_cons, deL_nil, reduceIte, seval, -BitVec.isValue, -BitVec.reduceOfNat, -List.reduceReplicate]
  try simp
def ctKNode (k : LK) : Nat × (List AV → R) := (200, AK3 (K k) fun (r : BitVec 32) (a b : By) => (LKf k ∧ a.length ≤ 1000000 ∧ b.length ≤ 1000000, Enc.ret (ndS k.o k.id r a b)))
theorem ctKNode_ok {k : LK} {Ct : List (Nat × (List AV → R))} (h : CtOK Tryz.prog Gs Ct) : CtOK Tryz.prog Gs (ctKNode k :: Ct) := CtOK_cons (RowK3 fun r a b h => lnode_fun k r a b h.1 h.2.1 h.2.2) h
theorem lleafn {k : LK} (hk : LKf k) (q : BitVec 32) : (pw k.l.h.toNat + q.setWidth 64).setWidth 32 = lN k.l.h.toNat 0 q.toNat := by
  apply BitVec.eq_of_toNat_eq
  have hs := hk.sm
  have : 2 ^ k.l.h.toNat ≤ 2 ^ 25 := Nat.pow_le_pow_right (n := 2) (by omega) (by omega)
  have hq := q.isLt
  have e : (2 ^ k.l.h.toNat) % 2 ^ 64 = 2 ^ k.l.h.toNat := Nat.mod_eq_of_lt (by omega)
  rw [lN, BitVec.toNat_setWidth, BitVec.toNat_add, BitVec.toNat_setWidth, pw, BitVec.toNat_ofNat, BitVec.toNat_ofNat, e, Nat.sub_zero]
  omega
set_option maxHeartbeats 1000000 in
theorem lbottom_fun (k : LK) (q : BitVec 32) (a : By) (hk : LKf k) (ha : a.length ≤ 1000000) : Fun Tryz.prog Gs 150 [K k, Enc.enc q, Enc.enc a] (Enc.ret (lfS k.o k.id (lN k.l.h.toNat 0 q.toNat) a)) := by
  have hi := hk.i
  have hln := lleafn hk q
  obtain ⟨r, hr⟩ : ∃ r, r = lN k.l.h.toNat 0 q.toNat := ⟨_, rfl⟩
  rw [← hr] at hln ⊢
  have h4 := bigL_len (r.setWidth 64) 4
  have hdl := hd_len (q := r) hi
  have h2 := bigL_len (0x8282#64) 2
  have hit : k.id.take 16 = k.id := List.take_of_length_le (by omega)
  have hf : [k.id, bigL (r.setWidth 64) 4, bigL 0x8282#64 2, a].flatten = hdS k.id r ++ bigL 0x8282#64 2 ++ a := by simp [hdS]
  have hfl : (hdS k.id r ++ bigL 0x8282#64 2 ++ a).length ≤ 4611686018427387904 := by simp [hdS, h4, h2]; omega
  have hR : hO k.o (hdS k.id r ++ bigL 0x8282#64 2 ++ a) = lfS k.o k.id r a := rfl
  have hbb := bb4 k.id (bigL (r.setWidth 64) 4) (bigL 0x8282#64 2) a (by omega) (by omega) (by omega) (by omega)
  have hct := mark_ok 19 (ctKLeaves_ok (k := k) (ctU32_ok (ctU16_ok (ctKHash_ok (k := k) (CtOK_nil (P := Tryz.prog) (Gl := Gs))))))
  refine Fun_cc [mark 19, ctKLeaves k, ctU32, ctU16, ctKHash k] mo Tryz.func150 (by decide) cc150 rs150 Tryz.ntmps150 (by simp) (AW_ct [] (AW_run CtOK_nil 2 ?_))
  simp (maxSteps := 10000000) (disch := omega) only [go_sem, c150, K, lkC, reduceIte, seval, -BitVec.isValue, -BitVec.reduceOfNat, -List.reduceReplicate]
  refine AW_freeze 0 [3] (seg := ⟨lkC k, true⟩) (by simp only [go_sem, lkC, reduceIte, seval, -BitVec.isValue, -BitVec.reduceOfNat, -List.reduceReplicate]) rfl (AW_ct [mark 19, ctKLeaves k, ctU32, ctU16, ctKHash k] (AW_run hct 1000 ?_))
  simp (maxSteps := 10000000) (disch := omega) only [go_sem, frzF, lkC, K, mark, ctKLeaves, ctU32, ctU16, ctKHash, hi, hit, hln, hf, h4, h2, hk, hbb, hdl, hR, deL_cons, deL_nil, reduceIte, seval, -BitVec.isValue, -BitVec.reduceOfNat, -List.reduceReplicate]
  try simp
def ctKBottom (k : LK) : Nat × (List AV → R) := (150, AK2 (K k) fun (q : BitVec 32) (a : By) => (LKf k ∧ a.length ≤ 1000000, Enc.ret (lfS k.o k.id (lN k.l.h.toNat 0 q.toNat) a)))
theorem ctKBottom_ok {k : LK} {Ct : List (Nat × (List AV → R))} (h : CtOK Tryz.prog Gs Ct) : CtOK Tryz.prog Gs (ctKBottom k :: Ct) := CtOK_cons (RowK2 fun q a h => lbottom_fun k q a h.1 h.2) h
set_option maxHeartbeats 1000000 in
theorem lleaf_fun (k : LK) (q : BitVec 32) (hk : LKok k) : Fun Tryz.prog Gs 241 [K k, Enc.enc q] (.tup [Enc.ret (lnode k 0 q.toNat), .i 0]) := by
  have hi := hk.i
  have hf := hk.kf
  have hit : k.id.take 16 = k.id := List.take_of_length_le (by omega)
  have hmay : rMay k.o k.sd = 0 := by rw [rMay, if_pos hk.ot, if_pos (by rw [hk.s, hk.n])]
  have hP : PubR k.o k.id q k.sd = .tup [Enc.ret (lpubO k.o k.id q k.sd), .i 0] := by rw [PubR, if_pos hmay]
  have hq : BitVec.ofNat 32 q.toNat = q := by simp
  have hn : lfS k.o k.id (lN k.l.h.toNat 0 q.toNat) (lpubO k.o k.id q k.sd) = lnode k 0 q.toNat := by rw [lnode, hq]
  have hpl : (lpubO k.o k.id q k.sd).length = k.o.n.toNat := by have h1 : ((lpubO k.o k.id q k.sd).length : Int) = k.o.n := hO_len hk.o _; omega
  have hon := hk.o.n
  have hct := ctLPublic_ok (ctKBottom_ok (k := k) (CtOK_nil (P := Tryz.prog) (Gl := Gs)))
  refine Fun_cc _ mo Tryz.func241 (by decide) cc241 rs241 Tryz.ntmps241 (by simp) (AW_run hct 1000 ?_)
  simp (maxSteps := 10000000) (disch := omega) only [go_sem, c241, K, lkC, ctLPublic, ctKBottom, hi, hit, hP, hf, hpl, hn, reduceIte, seval, -BitVec.isValue, -BitVec.reduceOfNat, -List.reduceReplicate]
  try simp
end Go.Lv
namespace Go.Lv
open Go Go.Proofs
set_option linter.unusedSimpArgs false
set_option maxRecDepth 100000
def ctKLeaf (k : LK) : Nat × (List AV → R) := (241, AK1 (K k) fun (q : BitVec 32) => (LKok k, .tup [Enc.ret (lnode k 0 q.toNat), .i 0]))
theorem ctKLeaf_ok {k : LK} {Ct : List (Nat × (List AV → R))} (h : CtOK Tryz.prog Gs Ct) : CtOK Tryz.prog Gs (ctKLeaf k :: Ct) := CtOK_cons (RowK1 fun q h => lleaf_fun k q h) h
def mdE (l : Lms) (o : Ots) (seed : By) : Int := if fitP l o then if (seed.length : Int) = l.n then 0 else 1 else 60
def zk : List AV := [.u32 0, .b false, .i 0, .i 0, .u32 0, .b false, .i 0, .i 0, .i 0, .i 0, .u8 0, .u8 0, .u8 0, .u8 0, .u8 0, .u8 0, .u8 0, .u8 0, .u8 0, .u8 0, .u8 0, .u8 0, .u8 0, .u8 0, .u8 0, .u8 0, .ros true 0 []]
def mdK (l : Lms) (o : Ots) (id seed : By) : AV := if mdE l o seed = 0 then .agg (lkR ⟨l, o, id, seed⟩) else .agg zk
theorem mdE_ok {l : Lms} {o : Ots} {id seed : By} (h : mdE l o seed = 0) (hid : id.length = 16) : LKok ⟨l, o, id, seed⟩ := by
  unfold mdE at h
  split at h
  · rename_i h1
    split at h
    · rename_i h2; exact ⟨h1, hid, h2⟩
    · cases h
  · cases h
set_option maxHeartbeats 1000000 in
theorem made_fun (l : Lms) (o : Ots) (id seed : By) (hid : id.length = 16) (hsd : seed.length ≤ 140737488351232) : Fun Tryz.prog Gs 210 [Enc.enc l, Enc.enc o, Enc.enc (⟨id⟩ : Ar (BitVec 8)), Enc.enc seed] (.tup [mdK l o id seed, .i (mdE l o seed)]) := by
  have hit : id.take 16 = id := List.take_of_length_le (by omega)
  have hf : [seed].flatten = seed := by simp
  have hct := mark_ok 25 (ctFit_ok (ctOJoin_ok (CtOK_nil (P := Tryz.prog) (Gl := Gs))))
  refine Fun_cc _ mo Tryz.func210 (by decide) cc210 rs210 Tryz.ntmps210 (by simp) (AW_run hct 1000 ?_)
  by_cases h1 : fitP l o
  · by_cases h2 : (seed.length : Int) = l.n
    · have hE : mdE l o seed = 0 := by rw [mdE, if_pos h1, if_pos h2]
      rw [mdK, if_pos hE, hE]
      simp (maxSteps := 10000000) (disch := omega) only [go_sem, c210, mark, ctFit, ctOJoin, h1, h2, hid, hit, hf, hsd, lkR, deL_cons, deL_nil, reduceIte, seval, -BitVec.isValue, -BitVec.reduceOfNat, -List.reduceReplicate]
      try simp
    · have hE : mdE l o seed = 1 := by rw [mdE, if_pos h1, if_neg h2]
      rw [mdK, if_neg (by rw [hE]; decide), hE]
      simp (maxSteps := 10000000) (disch := omega) only [go_sem, c210, mark, ctFit, ctOJoin, h1, eq_false h2, hid, hit, zk, reduceIte, seval, -BitVec.isValue, -BitVec.reduceOfNat, -List.reduceReplicate]
      try simp
  · have hE : mdE l o seed = 60 := by rw [mdE, if_neg h1]
    rw [mdK, if_neg (by rw [hE]; decide), hE]
    simp (maxSteps := 10000000) (disch := omega) only [go_sem, c210, mark, ctFit, ctOJoin, eq_false h1, hid, hit, zk, reduceIte, seval, -BitVec.isValue, -BitVec.reduceOfNat, -List.reduceReplicate]
    try simp
def ctMade : Nat × (List AV → R) := (210, A4 fun (l : Lms) (o : Ots) (id : Ar (BitVec 8)) (seed : By) => (id.l.length = 16 ∧ seed.length ≤ 140737488351232, .tup [mdK l o id.l seed, .i (mdE l o seed)]))
theorem ctMade_ok {Ct : List (Nat × (List AV → R))} (h : CtOK Tryz.prog Gs Ct) : CtOK Tryz.prog Gs (ctMade :: Ct) := CtOK_cons (Row4 fun l o id seed h => made_fun l o id.l seed h.1 h.2) h
end Go.Lv
namespace Go.Lv
open Go Go.Proofs
set_option linter.unusedSimpArgs false
set_option maxRecDepth 100000
end Go.Lv
namespace Go.Lv
open Go Go.Proofs
set_option linter.unusedSimpArgs false
set_option maxRecDepth 100000
@[go_sem] theorem id_drop (d : By) (X : List AV) (n : Nat) (h : d.length = 16) (hn : 16 ≤ n) : (d.map AV.u8 ++ X).drop n = X.drop (n - 16) := by
  rw [List.drop_append, List.drop_of_length_le (by simp; omega), List.nil_append, List.length_map, h]
@[go_sem] theorem id_take (d : By) (X : List AV) (n : Nat) (h : d.length = 16) (hn : 16 ≤ n) : (d.map AV.u8 ++ X).take n = d.map .u8 ++ X.take (n - 16) := by
  rw [List.take_append, List.take_of_length_le (by simp; omega), List.length_map, h]
@[go_sem] theorem id_getD (d : By) (X : List AV) (n : Nat) (h : d.length = 16) (hn : 16 ≤ n) : (d.map AV.u8 ++ X).getD n .junk = X.getD (n - 16) .junk := by
  simp [List.getD_eq_getElem?_getD, List.getElem?_append, h, Nat.not_lt.2 hn]
@[go_sem] theorem id_set (d : By) (X : List AV) (n : Nat) (v : AV) (h : d.length = 16) (hn : 16 ≤ n) : (d.map AV.u8 ++ X).set n v = d.map .u8 ++ X.set (n - 16) v := by
  rw [List.set_append_right _ _ (by simp; omega), List.length_map, h]
def ltC (k : LK) (sl : AV) (n : Nat) : List AV := [.u32 k.l.code, .b k.l.shake, .i k.l.n, .i k.l.h, .u32 k.o.code, .b k.o.shake, .i k.o.n, .i k.o.w, .i k.o.p, .i k.o.ls] ++ (k.id.map .u8 ++ [Enc.enc k.sd, sl, .u64 (BitVec.ofNat 64 n)])
def lhC (k : LK) (p : Nat × Nat) : List AV := [.i p.1, .u32 (lN k.l.h.toNat p.1 p.2), Enc.enc (lnode k p.1 p.2)]
def lsC (k : LK) (L : List (Nat × Nat)) : List AV := L.flatMap (lhC k)
theorem lsC_len (k : LK) : ∀ L : List (Nat × Nat), (lsC k L).length = 3 * L.length
  | [] => rfl
  | p :: L => by
    have ih := lsC_len k L
    simp only [lsC, List.flatMap_cons, List.length_append, List.length_cons] at ih ⊢
    rw [ih, show (lhC k p).length = 3 from rfl]; omega
theorem lsC_app (k : LK) (L : List (Nat × Nat)) (p : Nat × Nat) : lsC k (L ++ [p]) = lsC k L ++ lhC k p := by simp [lsC]
theorem lsC_at (k : LK) : ∀ (L : List (Nat × Nat)) (i : Nat), i < L.length → ∃ R, (lsC k L).drop (i * 3) = lhC k (L.getD i (0, 0)) ++ R
  | p :: L, 0, _ => ⟨lsC k L, by simp [lsC]⟩
  | p :: L, i + 1, h => by
    obtain ⟨R, e⟩ := lsC_at k L i (by simpa using h)
    refine ⟨R, ?_⟩
    rw [← show (L.getD i (0, 0)) = ((p :: L).getD (i + 1) (0, 0)) from by simp, ← e]
    show (lhC k p ++ lsC k L).drop ((i + 1) * 3) = _
    rw [Nat.succ_mul, Nat.add_comm (i * 3) 3, ← List.drop_drop]
    rfl
theorem lhC_l (k : LK) (p : Nat × Nat) : own.ownL (lhC k p) = false ∧ (∀ m, ren.renL m (lhC k p) = lhC k p) ∧ (∀ n, idk.idkL n (lhC k p) = True) ∧ (∀ H j fl, (lhC k p).map (frz H (j + 2) fl) = lhC k p) ∧ (∀ M, okx.okxL false M (lhC k p) = True) := by
  refine ⟨?_, ?_, ?_, ?_, ?_⟩
  · simp [lhC, own, own.ownL, (Enc.ow (lnode k p.1 p.2)).1]
  · intro m; simp [lhC, ren, ren.renL, (Enc.rn m (lnode k p.1 p.2)).1]
  · intro n; simp [lhC, idk, idk.idkL, (Enc.ik n (lnode k p.1 p.2)).1]
  · intro H j fl; simp only [lhC, List.map_cons, List.map_nil, frz, enc_l, enc_8, z_8, Bool.false_and, Bool.and_false]
  · intro M; simp [lhC, okx, okx.okxL, enc_l, enc_8, okxL_8]
theorem lsC_l (k : LK) : ∀ L : List (Nat × Nat), own.ownL (lsC k L) = false ∧ (∀ m, ren.renL m (lsC k L) = lsC k L) ∧ (∀ n, idk.idkL n (lsC k L) = True) ∧ (∀ H j fl, (lsC k L).map (frz H (j + 2) fl) = lsC k L) ∧ (∀ M, okx.okxL false M (lsC k L) = True)
  | [] => ⟨rfl, fun _ => rfl, fun _ => rfl, fun _ _ _ => rfl, fun _ => rfl⟩
  | p :: L => by
    obtain ⟨a1, a2, a3, a4, a5⟩ := lhC_l k p
    obtain ⟨b1, b2, b3, b4, b5⟩ := lsC_l k L
    have e : lsC k (p :: L) = lhC k p ++ lsC k L := rfl
    have f1 : ∀ (A B : List AV), own.ownL A = false → own.ownL B = false → own.ownL (A ++ B) = false := by
      intro A B h1 h2
      rw [ownL_iff] at h1 h2 ⊢
      intro z hz
      rcases List.mem_append.1 hz with h | h
      · exact h1 z h
      · exact h2 z h
    have f2 : ∀ (m : List (Nat × Nat)) (A B : List AV), ren.renL m (A ++ B) = ren.renL m A ++ ren.renL m B := by
      intro m A B; induction A with
      | nil => rfl
      | cons z A ih => simp only [List.cons_append, ren.renL, ih]
    have f3 : ∀ (n : Nat) (A B : List AV), idk.idkL n A → idk.idkL n B → idk.idkL n (A ++ B) := by
      intro n A B h1 h2; induction A with
      | nil => exact h2
      | cons z A ih => simp only [List.cons_append, idk.idkL] at h1 ⊢; exact ⟨h1.1, ih h1.2⟩
    rw [e]
    refine ⟨f1 _ _ a1 b1, fun m => by rw [f2, a2, b2], fun n => eq_true (f3 n _ _ (of_eq_true (a3 n)) (of_eq_true (b3 n))), fun H j fl => by rw [List.map_append, a4, b4], fun M => ?_⟩
    rw [okxL_app, a5, b5]; simp
@[go_sem] theorem lsC_o (k : LK) (L : List (Nat × Nat)) : own.ownL (lsC k L) = false := (lsC_l k L).1
@[go_sem] theorem lsC_r (k : LK) (L : List (Nat × Nat)) (m : List (Nat × Nat)) : ren.renL m (lsC k L) = lsC k L := (lsC_l k L).2.1 m
@[go_sem] theorem lsC_i (k : LK) (L : List (Nat × Nat)) (n : Nat) : idk.idkL n (lsC k L) = True := (lsC_l k L).2.2.1 n
@[go_sem] theorem lsC_f (k : LK) (L : List (Nat × Nat)) (H : List (Nat × Seg)) (j : Nat) (fl : Bool) : (lsC k L).map (frz H (j + 2) fl) = lsC k L := (lsC_l k L).2.2.2.1 H j fl
@[go_sem] theorem lsC_x (k : LK) (L : List (Nat × Nat)) (M : List (Nat × Nat)) : okx.okxL false M (lsC k L) = True := (lsC_l k L).2.2.2.2 M
def ltV (k : LK) (L : List (Nat × Nat)) (n : Nat) : AV := .rop false (ltC k (.ros false L.length (lsC k L)) n)
theorem lnoneV_fun (k : LK) (L : List (Nat × Nat)) (n : Nat) (hk : LKok k) : Fun Tryz.prog Gs 260 [ltV k L n] (.b false) := by
  have hn : ¬ k.l.n = 0 := by have := hk.n; have := hk.o.n; omega
  refine Fun_cc [] mo Tryz.func260 (by decide) cc260 rs260 Tryz.ntmps260 (by simp) (AW_run CtOK_nil 1000 ?_)
  simp (maxSteps := 10000000) (disch := omega) only [go_sem, c260, ltV, ltC, eq_false hn, reduceIte, seval, -BitVec.isValue, -BitVec.reduceOfNat, -List.reduceReplicate]
  try simp [hn]
def σal (k : LK) (L : List (Nat × Nat)) (yl : Nat) (i : Nat) : St := ⟨[(0, .fn (.yield yl) [] []), (10, .ros false L.length (lsC k L)), (11, .i L.length), (12, .i i)], [], 0⟩
def lgive (k : LK) (L : List (Nat × Nat)) (i : Nat) : List AV := [.i (L.getD i (0, 0)).1, Enc.ret (lnode k (L.getD i (0, 0)).1 (L.getD i (0, 0)).2)]
theorem lgive_x (k : LK) (L : List (Nat × Nat)) (i : Nat) : okx.okxL false [] (lgive k L i) := by
  simp only [lgive, ret_l, ret_8, okx, okx.okxL, okxL_8]; simp
set_option maxHeartbeats 4000000 in
theorem All1_iter (k : LK) (L : List (Nat × Nat)) (n : Nat) (fr : Bool) (hk : LKok k) (hL : L.length ≤ 1000) (m : Nat) (stop : Bool) (hm : if stop then m < L.length else m = L.length) :
    IterOK Tryz.prog Gs 276 26 [.rop fr [ltV k L n]] [] 0 m (lgive k L) stop := by
  intro yl Ls hL0 hy hs
  have hct := ct1_ok (lnoneV_fun k L n hk) (ctOJoin_ok (CtOK_nil (P := Tryz.prog) (Gl := Gs)))
  have hid := hk.i
  refine IterAW_cc [ct1 260 [ltV k L n] (.b false), ctOJoin] Tryz.func276 (by decide) cc276 rs276 Tryz.ntmps276 (by simp) (AW_run hct 1000 ?_)
  simp (maxSteps := 10000000) (disch := omega) only [go_sem, c276, ct1, ctOJoin, ltV, ltC, reduceIte, seval, -BitVec.isValue, -BitVec.reduceOfNat, -List.reduceReplicate]
  refine AW_loopW Ls (σal k L yl) (fun i => i ≤ m) (fun i => m + 1 - i) 0 (Nat.zero_le _) (Wk_l [] (hL0 0) ?_) rfl fun i hi => ?_
  · simp only [go_sem, σal, reduceIte, seval, -BitVec.isValue, -BitVec.reduceOfNat, -List.reduceReplicate]
    try simp
  · have hil : i ≤ L.length := by split at hm <;> omega
    by_cases hc : i < L.length
    · have hc' : (i : Int) < (L.length : Int) := by omega
      obtain ⟨R, hR⟩ := lsC_at k L i hc
      obtain ⟨p, hp⟩ : ∃ p, p = L.getD i (0, 0) := ⟨_, rfl⟩
      rw [← hp] at hR
      have hgv : lgive k L i = [.i p.1, Enc.ret (lnode k p.1 p.2)] := by rw [lgive, ← hp]
      have hR3 : (lsC k L).drop (i * 3) = .i p.1 :: .u32 (lN k.l.h.toNat p.1 p.2) :: Enc.enc (lnode k p.1 p.2) :: R := hR
      have hnl := lnode_len hk p.1 p.2
      have hon := hk.o.n
      have hf : [lnode k p.1 p.2].flatten = lnode k p.1 p.2 := by simp
      have hlen := lsC_len k L
      have hct2 := mark_ok 21 hct
      refine AW_ct [mark 21, ct1 260 [ltV k L n] (.b false), ctOJoin] (AW_run hct2 1000 ?_)
      simp (maxSteps := 10000000) (disch := omega) only [go_sem, σal, eq_true hc', mark, ct1, ctOJoin, hR3, hlen, hf, hnl, deL_cons, deL_nil, reduceIte, seval, -BitVec.isValue, -BitVec.reduceOfNat, -List.reduceReplicate]
      by_cases him : i = m
      · subst him
        cases stop with
        | false => simp at hm; omega
        | true =>
          have hy0 := hs rfl
          rw [hgv] at hy0
          refine AW_yield hy0 (by simp only [go_sem, reduceIte, seval, -BitVec.isValue, -BitVec.reduceOfNat, -List.reduceReplicate]) (by decide) (by simp only [go_sem, hnl, reduceIte, seval, -BitVec.isValue, -BitVec.reduceOfNat, -List.reduceReplicate]) rfl ?_
          refine AW_ct [] (AW_run (CtOK_nil (P := Tryz.prog) (Gl := Gs)) 1000 ?_)
          simp (maxSteps := 10000000) (disch := omega) only [go_sem, reduceIte, seval, -BitVec.isValue, -BitVec.reduceOfNat, -List.reduceReplicate]
          exact AW_endR
      · have hy0 := hy i (by omega)
        rw [hgv] at hy0
        refine AW_yield hy0 (by simp only [go_sem, reduceIte, seval, -BitVec.isValue, -BitVec.reduceOfNat, -List.reduceReplicate]) (by decide) (by simp only [go_sem, hnl, reduceIte, seval, -BitVec.isValue, -BitVec.reduceOfNat, -List.reduceReplicate]) rfl ?_
        refine AW_ct [] (AW_run (CtOK_nil (P := Tryz.prog) (Gl := Gs)) 1000 ?_)
        simp (maxSteps := 10000000) (disch := omega) only [go_sem, reduceIte, seval, -BitVec.isValue, -BitVec.reduceOfNat, -List.reduceReplicate]
        refine AW_lpW (i + 1) (by omega) (by omega) (Wk_l [] (hL0 _) ?_)
        simp only [go_sem, σal, reduceIte, seval, -BitVec.isValue, -BitVec.reduceOfNat, -List.reduceReplicate]
        try simp
    · have hge : i = L.length := by omega
      have hc' : ¬ (i : Int) < (L.length : Int) := by omega
      refine AW_ct [] (AW_run (CtOK_nil (P := Tryz.prog) (Gl := Gs)) 1000 ?_)
      cases stop with
      | true => simp at hm; omega
      | false =>
        have him : i = m := by simp at hm; omega
        subst him
        simp (maxSteps := 10000000) (disch := omega) only [go_sem, σal, eq_false hc', reduceIte, seval, -BitVec.isValue, -BitVec.reduceOfNat, -List.reduceReplicate]
        exact AW_endN
end Go.Lv
namespace Go.Lv
open Go Go.Proofs
set_option linter.unusedSimpArgs false
set_option maxRecDepth 100000
theorem lallV_fun (k : LK) (L : List (Nat × Nat)) (n : Nat) (hk : LKok k) : Fun Tryz.prog Gs 261 [ltV k L n] (.fn (.func 276) [] [.rop true [ltV k L n]]) := by
  have hid := hk.i
  refine Fun_cc [] mo Tryz.func261 (by decide) cc261 rs261 Tryz.ntmps261 (by simp) (AW_run CtOK_nil 1000 ?_)
  simp (maxSteps := 10000000) (disch := omega) only [go_sem, c261, ltV, ltC, hid, reduceIte, seval, -BitVec.isValue, -BitVec.reduceOfNat, -List.reduceReplicate]
  try simp
theorem pw_of {k : LK} (n : Nat) (hn : n < 2 ^ 63) (h : k.l.h.toNat ≤ 25) : (BitVec.ofNat 64 n = pw k.l.h.toNat) ↔ n = 2 ^ k.l.h.toNat := by
  have : 2 ^ k.l.h.toNat ≤ 2 ^ 25 := Nat.pow_le_pow_right (n := 2) (by omega) h
  unfold pw
  obtain ⟨P, hP⟩ : ∃ P, P = 2 ^ k.l.h.toNat := ⟨_, rfl⟩
  rw [← hP] at this ⊢
  constructor
  · intro e
    have := congrArg BitVec.toNat e
    rw [BitVec.toNat_ofNat, BitVec.toNat_ofNat] at this
    omega
  · rintro e; rw [e]
def lroot (k : LK) : By := lnode k k.l.h.toNat 0
set_option maxHeartbeats 4000000 in
theorem ltopV_all (k : LK) (hk : LKok k) (hH : k.l.h.toNat ≤ 4) : Fun Tryz.prog Gs 235 [ltV k (lsk (2 ^ k.l.h.toNat) 0) (2 ^ k.l.h.toNat)] (.tup [Enc.ret (lroot k), .i 0]) := by
  have hid := hk.i
  have hf := hk.kf
  have hs := hk.sm
  have hpw : BitVec.ofNat 64 (2 ^ k.l.h.toNat) = pw k.l.h.toNat := rfl
  have hal := lsk_all k.l.h.toNat (by omega)
  have hg0 : (lsk (2 ^ k.l.h.toNat) 0).getD 0 (0, 0) = (k.l.h.toNat, 0) := by rw [hal]; rfl
  have hln : (lsk (2 ^ k.l.h.toNat) 0).length = 1 := by rw [hal]; rfl
  obtain ⟨L, hL⟩ : ∃ L, L = lsk (2 ^ k.l.h.toNat) 0 := ⟨_, rfl⟩
  rw [← hL] at hg0 hln ⊢
  obtain ⟨n, hn⟩ : ∃ n, n = 2 ^ k.l.h.toNat := ⟨_, rfl⟩
  rw [← hn] at hpw ⊢
  have hgv : lgive k L 0 = [.i (k.l.h.toNat : Nat), Enc.ret (lroot k)] := by rw [lgive, hg0]; rfl
  have hct := ct1_ok (lnoneV_fun k L n hk) (ct1_ok (lallV_fun k L n hk) (ctKLeaves_ok (k := k) (CtOK_nil (P := Tryz.prog) (Gl := Gs))))
  refine Fun_ccM [ct1 260 [ltV k L n] (.b false), ct1 261 [ltV k L n] (.fn (.func 276) [] [.rop true [ltV k L n]]), ctKLeaves k] mo Tryz.func235 (by decide) cc235 rs235 Tryz.ntmps235 (by simp) fun E0 => AW_run hct 1000 ?_
  simp (maxSteps := 10000000) (disch := omega) only [go_sem, c235, ct1, ctKLeaves, ltV, ltC, K, lkC, hid, hf, hpw, reduceIte, seval, -BitVec.isValue, -BitVec.reduceOfNat, -List.reduceReplicate]
  refine AW_wk (Wk_e (s' := ⟨[(20, .fn (.func 276) [] [.rop true [ltV k L n]]), (4, .ptr 0 0)], [(0, ⟨[.nils], true⟩)] ++ [], 1⟩) [] (by simp) (by simp only [go_sem, ltV, ltC, hpw, reduceIte, seval, -BitVec.isValue, -BitVec.reduceOfNat, -List.reduceReplicate]; try simp)) ?_
  refine AW_rf (Cr := []) (Cx := []) [] (lgive k L) (fun i => if i = 0 then [(0, ⟨[.nils], true⟩)] else [(0, ⟨[Enc.ret (lroot k)], true⟩)]) (fun _ => 1) none trivial mo (by simp only [go_sem, reduceIte, seval, -BitVec.isValue, -BitVec.reduceOfNat, -List.reduceReplicate]) (All1_iter k L n true hk (by omega) 1 false (by simp [hln])) rfl rfl (by simp only [go_sem, okx, okx.okxL, ltV, ltC, reduceIte, seval, -BitVec.isValue, -BitVec.reduceOfNat, -List.reduceReplicate]) (by simp [okH]) rfl rfl (by simp only [go_sem, ltV, ltC, reduceIte, seval, -BitVec.isValue, -BitVec.reduceOfNat, -List.reduceReplicate]) (by decide)
    (fun i _ => rfl) (fun i hi => ?_) rfl rfl (fun _ => Nat.le_refl _) (fun i hi => ?_) (fun e he => by cases he) rfl (by simp) ?_
  · exact lgive_x k L i
  · obtain rfl : i = 0 := by omega
    rw [hgv]
    refine AW_run (CtOK_nil (P := Tryz.prog) (Gl := Gs)) 100 ?_
    simp (maxSteps := 10000000) (disch := omega) only [go_sem, reduceIte, seval, -BitVec.isValue, -BitVec.reduceOfNat, -List.reduceReplicate]
    refine AW_run (CtOK_nil (P := Tryz.prog) (Gl := Gs)) 100 ?_
    simp (maxSteps := 10000000) (disch := omega) only [go_sem, reduceIte, seval, -BitVec.isValue, -BitVec.reduceOfNat, -List.reduceReplicate]
    refine Wk_r [] (Nat.le_refl _) rfl ?_
    simp only [go_sem, List.set_cons_zero, reduceIte, seval, -BitVec.isValue, -BitVec.reduceOfNat, -List.reduceReplicate]
    try simp
  · refine AW_run (CtOK_nil (P := Tryz.prog) (Gl := Gs)) 100 ?_
    simp (maxSteps := 10000000) (disch := omega) only [go_sem, reduceIte, seval, -BitVec.isValue, -BitVec.reduceOfNat, -List.reduceReplicate]
    refine AW_doneAR ?_
    simp only [go_sem, reduceIte, seval, -BitVec.isValue, -BitVec.reduceOfNat, -List.reduceReplicate]
    try simp
end Go.Lv
namespace Go.Lv
open Go Go.Proofs
set_option linter.unusedSimpArgs false
set_option maxRecDepth 100000
theorem lN_half {H c q : Nat} (hH : H ≤ 4) (hc : c < H) (hq : q < 16) : lN H c q / 2#32 = lN H (c + 1) (q / 2) := by
  have h : 2 ^ (H - c) = 2 * 2 ^ (H - (c + 1)) := by rw [show H - c = (H - (c + 1)) + 1 by omega, Nat.pow_succ, Nat.mul_comm]
  have h16 : 2 ^ (H - c) ≤ 2 ^ 4 := Nat.pow_le_pow_right (n := 2) (by omega) (by omega)
  apply BitVec.eq_of_toNat_eq
  have e3 : (2#32).toNat = 2 := rfl
  rw [lN, lN, BitVec.toNat_udiv, e3, BitVec.toNat_ofNat, BitVec.toNat_ofNat]
  omega
theorem lN_leaf {H n : Nat} (hH : H ≤ 4) (hn : n < 16) : (pw H + BitVec.ofNat 64 n).setWidth 32 = lN H 0 n := by
  have h16 : 2 ^ H ≤ 2 ^ 4 := Nat.pow_le_pow_right (n := 2) (by omega) hH
  apply BitVec.eq_of_toNat_eq
  rw [lN, BitVec.toNat_setWidth, BitVec.toNat_add, pw, BitVec.toNat_ofNat, BitVec.toNat_ofNat, BitVec.toNat_ofNat, Nat.sub_zero]
  omega
theorem lgetD_app2 (A B : List AV) (n : Nat) (h : A.length ≤ n) : (A ++ B).getD n .junk = B.getD (n - A.length) .junk := by
  simp [List.getD_eq_getElem?_getD, List.getElem?_append, Nat.not_lt.2 h]
theorem lhigh : ∀ H < 5, ∀ n < 2 ^ H, ∀ c < 5, n % 2 ^ c = 2 ^ c - 1 ∧ n / 2 ^ c % 2 = 1 → c < H := by decide +kernel
def σla (k : LK) (n c : Nat) : St :=
  ⟨[(0, .ptr 0 0), (5, .ptr 2 0)], [(0, ⟨ltC k (.sl 1 0 (lsk n c).length 3) (n + 1), false⟩), (1, ⟨lsC k (lsk n c), false⟩), (2, ⟨lhC k (c, n / 2 ^ c), true⟩)], 3⟩
theorem dom2L {nx : Nat} (h : Nat.blt 1 nx = true) : ∀ i ∈ [0, 1], i < nx ∧ lkd i [] i = i := dom01 h
set_option maxHeartbeats 8000000 in
theorem ladd_funG (k : LK) (n : Nat) (hk : LKok k) (hH : k.l.h.toNat ≤ 4) (hn : n < 2 ^ k.l.h.toNat) :
    FunG Tryz.prog Gs 259 [.ptr 0 0] [(0, ⟨ltC k (.sl 1 0 (lsk n 0).length 3) n, false⟩), (1, ⟨lsC k (lsk n 0), false⟩)] (.i 0) [(0, ⟨ltC k (.sl 4 0 (lsk (n + 1) 0).length 3) (n + 1), false⟩), (4, ⟨lsC k (lsk (n + 1) 0), false⟩)] := by
  have h16 : 2 ^ k.l.h.toNat ≤ 2 ^ 4 := Nat.pow_le_pow_right (n := 2) (by omega) hH
  have hn16 : n < 16 := by omega
  have hid := hk.i
  have hf := hk.kf
  have hs := hk.sm
  have hstl : (lsC k (lsk n 0)).take ((lsk n 0).length * 3) = lsC k (lsk n 0) := List.take_of_length_le (by rw [lsC_len]; omega)
  have hln0 := lsk_lenc 0 (by omega) n (by omega)
  have hsl0 := lsC_len k (lsk n 0)
  have hne : ¬ BitVec.ofNat 64 n = pw k.l.h.toNat := fun e => by have := (pw_of n (by omega) (by omega)).1 e; omega
  have hqn : (BitVec.ofNat 64 n).setWidth 32 = BitVec.ofNat 32 n := by
    apply BitVec.eq_of_toNat_eq; simp
  have hqt : (BitVec.ofNat 32 n).toNat = n := by rw [BitVec.toNat_ofNat]; omega
  have hinc : BitVec.ofNat 64 n + 1#64 = BitVec.ofNat 64 (n + 1) := by
    apply BitVec.eq_of_toNat_eq; simp
  have hlf := lN_leaf hH hn16
  have hnl := fun a b => lnode_len hk a b
  have hon := hk.o.n
  have hct := ct1_ok (lnoneV_fun k (lsk n 0) n hk) (ctKLeaves_ok (k := k) (ctKLeaf_ok (k := k) (CtOK_nil (P := Tryz.prog) (Gl := Gs))))
  have hn0 := CtOK_nil (P := Tryz.prog) (Gl := Gs)
  refine FunG_cc [ct1 260 [ltV k (lsk n 0) n] (.b false), ctKLeaves k, ctKLeaf k] [0, 1] 2 mo Tryz.func259 (by decide) cc259 rs259 Tryz.ntmps259 (by simp) rfl (by decide) rfl (AW_run hct 1000 ?_)
  have hn00 := hnl 0 n
  simp (maxSteps := 10000000) (disch := omega) only [go_sem, c259, ct1, ctKLeaves, ctKLeaf, ltV, ltC, K, lkC, hid, hk, hf, hstl, hsl0, eq_false hne, hqn, hqt, hlf, hinc, hn00, List.set_cons_zero, List.set_cons_succ, reduceIte, seval, -BitVec.isValue, -BitVec.reduceOfNat, -List.reduceReplicate]
  refine AW_loop (σla k n) (fun c => c < 5 ∧ n % 2 ^ c = 2 ^ c - 1) (fun c => 5 - c) 0 ⟨by omega, by simp; omega⟩ (Wk_uf 2 [] (Wk_d [] (dom2L rfl) ?_)) fun c hc => ?_
  · simp only [go_sem, σla, ltC, lhC, ufF, ufH, List.set_cons_zero, List.set_cons_succ, reduceIte, seval, -BitVec.isValue, -BitVec.reduceOfNat, -List.reduceReplicate]
    simp
    exact ⟨hinc, hn00.symm⟩
  · obtain ⟨hc5, hones⟩ := hc
    have hq : n / 2 ^ c < 16 := Nat.lt_of_le_of_lt (Nat.div_le_self _ _) hn16
    by_cases hb : n / 2 ^ c % 2 = 1
    · obtain ⟨o1, o2, o3, o4, o5⟩ := lones_succ n hn16 c hc5 ⟨hones, hb⟩
      have hcH := lhigh k.l.h.toNat (by omega) n hn c hc5 ⟨hones, hb⟩
      have ht := lsk_top c hc5 n (by omega) hb
      have hlen := lsk_lenc (c + 1) (by omega) n (by omega)
      have hAl := lsC_len k (lsk n (c + 1))
      have hst : lsC k (lsk n c) = lsC k (lsk n (c + 1)) ++ lhC k (c, n / 2 ^ c - 1) := by rw [ht, lsC_app]
      have hsl : (lsk n c).length = (lsk n (c + 1)).length + 1 := by rw [ht]; simp
      obtain ⟨m, hm⟩ : ∃ m, m = (lsk n (c + 1)).length := ⟨_, rfl⟩
      rw [← hm] at hsl hAl hlen
      have hC3 : lhC k (c, n / 2 ^ c - 1) = [.i c, .u32 (lN k.l.h.toNat c (n / 2 ^ c - 1)), .ros false (lnode k c (n / 2 ^ c - 1)).length ((lnode k c (n / 2 ^ c - 1)).map .u8)] := rfl
      have hd : (lsC k (lsk n c)).drop (m * 3) = lhC k (c, n / 2 ^ c - 1) := by rw [hst]; exact List.drop_left' (by omega)
      rw [hC3] at hd
      have hg : (lsC k (lsk n c)).getD (m * 3) .junk = .i (c : Int) := by rw [hst, lgetD_app2 _ _ _ (by omega), show m * 3 - (lsC k (lsk n (c + 1))).length = 0 by omega]; rfl
      have hl : (lsC k (lsk n c)).length = m * 3 + 3 := by rw [hst, List.length_append, hAl, Nat.mul_comm]; rfl
      have htk : (lsC k (lsk n c)).take (m * 3) = lsC k (lsk n (c + 1)) := by rw [hst]; exact List.take_left' (by omega)
      have e1 : ((m + 1 : Nat) : Int) - 1 = (m : Int) := by omega
      have hdv := lN_half (H := k.l.h.toNat) (c := c) (q := n / 2 ^ c) hH hcH hq
      have hnode : ndS k.o k.id (lN k.l.h.toNat (c + 1) (n / 2 ^ c / 2)) (lnode k c (n / 2 ^ c - 1)) (lnode k c (n / 2 ^ c)) = lnode k (c + 1) (n / 2 ^ c / 2) := by
        rw [lnode, o5, o4]
      have h1c : (c : Int) + 1 = ((c + 1 : Nat) : Int) := by omega
      have p1 := hnl c (n / 2 ^ c - 1)
      have p2 := hnl c (n / 2 ^ c)
      have p3 := hnl (c + 1) (n / 2 ^ c / 2)
      have hdv' : lN k.l.h.toNat c (n / 2 ^ c) / (2 : BitVec 32) = lN k.l.h.toNat (c + 1) (n / 2 ^ c / 2) := hdv
      have hct2 := ctKNode_ok (k := k) hn0
      refine AW_ct [ctKNode k] (AW_run hct2 68 ?_)
      simp (maxSteps := 10000000) (disch := omega) only [go_sem, σla, ltC, lhC, ctKNode, K, lkC, hid, hf, hsl, e1, hg, hd, hl, hdv, hdv', p1, p2, p3, hnode, h1c, List.set_cons_zero, List.set_cons_succ, List.getD_cons_zero, List.getD_cons_succ, reduceIte, seval, -BitVec.isValue, -BitVec.reduceOfNat, -List.reduceReplicate]
      have ha1 : m + 1 - m = 1 := by omega
      refine AW_clz (seg := ⟨lsC k (lsk n c), false⟩) (id := 1) (off := m * 3) (z := 3) (by simp only [go_sem, ha1, reduceIte, seval, -BitVec.isValue, -BitVec.reduceOfNat, -List.reduceReplicate]) (by simp only [go_sem, reduceIte, seval, -BitVec.isValue, -BitVec.reduceOfNat, -List.reduceReplicate]; rfl) (by simp only [go_sem, reduceIte, seval, -BitVec.isValue, -BitVec.reduceOfNat, -List.reduceReplicate]) (by simp only [go_sem, reduceIte, seval, -BitVec.isValue, -BitVec.reduceOfNat, -List.reduceReplicate]) (by simp only [go_sem, reduceIte, seval, -BitVec.isValue, -BitVec.reduceOfNat, -List.reduceReplicate]) (by simp only [go_sem, reduceIte, seval, -BitVec.isValue, -BitVec.reduceOfNat, -List.reduceReplicate]) (by simp only [hl]; omega) ?_
      refine AW_ct [] (AW_run hn0 1000 ?_)
      simp (maxSteps := 10000000) (disch := omega) only [go_sem, ltC, hid, hl, htk, e1, List.set_cons_zero, List.set_cons_succ, reduceIte, seval, -BitVec.isValue, -BitVec.reduceOfNat, -List.reduceReplicate]
      refine ⟨c + 1, ⟨by omega, o1⟩, Wk_uf 2 [] (Wk_tr 1 (m * 3) (Wk_d [] (dom2L rfl) ?_)), by omega⟩
      simp only [go_sem, σla, ltC, lhC, ufF, ufH, mapH, htk, ← hm, p3, o3, reduceIte, seval, -BitVec.isValue, -BitVec.reduceOfNat, -List.reduceReplicate]
      have hcut : (lsC k (lsk n (c + 1)) ++ [AV.i 0, AV.u32 0, AV.nils] ++ (lsC k (lsk n c)).drop (m * 3 + 3)).take (m * 3) = lsC k (lsk n (c + 1)) := by
        rw [List.append_assoc]; exact List.take_left' (by omega)
      rw [hcut]
      try simp
    · have hb0 : n / 2 ^ c % 2 = 0 := by omega
      have hsp := lsk_put c hc5 n hn16 ⟨hones, hb0⟩
      have hfin : lsC k (lsk n c) ++ lhC k (c, n / 2 ^ c) = lsC k (lsk (n + 1) 0) := by rw [← hsp, lsC_app]
      have hfl : (lsk n c).length + 1 = (lsk (n + 1) 0).length := by rw [← hsp]; simp
      have hsl := lsk_lenc c (by omega) n (by omega)
      have hAl := lsC_len k (lsk n c)
      have p2 := hnl c (n / 2 ^ c)
      have hC3 : lhC k (c, n / 2 ^ c) = [.i c, .u32 (lN k.l.h.toNat c (n / 2 ^ c)), .ros false (lnode k c (n / 2 ^ c)).length ((lnode k c (n / 2 ^ c)).map .u8)] := rfl
      rw [hC3, p2] at hfin
      have hz3 : (List.replicate 3 AV.junk).drop 3 = [] := rfl
      have hAt : (lsC k (lsk n c)).take ((lsk n c).length * 3) = lsC k (lsk n c) := List.take_of_length_le (by omega)
      have hAl' : (lsC k (lsk n c)).length = (lsk n c).length * 3 := by omega
      rcases lsk_non c hc5 n (by omega) hb0 with hnil | ⟨p, L, hL, hp⟩
      · have hl0 : (lsk n c).length = 0 := by rw [hnil]; rfl
        refine AW_ct [] (AW_run hn0 37 ?_)
        simp (maxSteps := 10000000) (disch := omega) only [go_sem, σla, ltC, lhC, hid, hl0, p2, List.set_cons_zero, List.set_cons_succ, List.getD_cons_zero, List.getD_cons_succ, reduceIte, seval, -BitVec.isValue, -BitVec.reduceOfNat, -List.reduceReplicate]
        refine AW_ct [] (AW_drr hn0 1000 [(0, ⟨ltC k (.sl 1 0 (lsk n c).length 3) (n + 1), false⟩), (2, ⟨[.i c, .u32 (lN k.l.h.toNat c (n / 2 ^ c)), .ros false (lnode k c (n / 2 ^ c)).length ((lnode k c (n / 2 ^ c)).map .u8)], true⟩)] rfl (by simp only [go_sem, ltC, hl0, p2, reduceIte, seval, -BitVec.isValue, -BitVec.reduceOfNat, -List.reduceReplicate]; try simp [hl0, p2]) ?_)
        simp (maxSteps := 10000000) (disch := omega) only [go_sem, ltC, hid, hl0, p2, List.set_cons_zero, List.set_cons_succ, List.getD_cons_zero, List.getD_cons_succ, reduceIte, seval, -BitVec.isValue, -BitVec.reduceOfNat, -List.reduceReplicate]
        have hnC : lsC k (lsk n c) = [] := by rw [hnil]; rfl
        rw [hnC, List.nil_append] at hfin
        rw [hl0] at hfl
        rw [← hfin, ← hfl]
        simp [hnC]
      · have hl0 : (lsk n c).length = L.length + 1 := by rw [hL]; simp
        have hAL := lsC_len k L
        have hg : (lsC k (lsk n c)).getD (L.length * 3) .junk = .i (p.1 : Int) := by rw [hL, lsC_app, lgetD_app2 _ _ _ (by omega), show L.length * 3 - (lsC k L).length = 0 by omega]; rfl
        have e1 : ((L.length + 1 : Nat) : Int) - 1 = (L.length : Int) := by omega
        have hpi : ¬ ((p.1 : Nat) : Int) = (c : Int) := by omega
        refine AW_ct [] (AW_run hn0 38 ?_)
        simp (maxSteps := 10000000) (disch := omega) only [go_sem, σla, ltC, lhC, hid, hl0, p2, e1, hg, hAl', eq_false hpi, List.set_cons_zero, List.set_cons_succ, List.getD_cons_zero, List.getD_cons_succ, reduceIte, seval, -BitVec.isValue, -BitVec.reduceOfNat, -List.reduceReplicate]
        refine AW_ct [] (AW_drr hn0 1000 [(0, ⟨ltC k (.sl 1 0 (L.length + 1) 3) (n + 1), false⟩), (2, ⟨[.i c, .u32 (lN k.l.h.toNat c (n / 2 ^ c)), .ros false k.o.n.toNat ((lnode k c (n / 2 ^ c)).map .u8)], true⟩)] rfl (by simp only [go_sem, ltC, reduceIte, seval, -BitVec.isValue, -BitVec.reduceOfNat, -List.reduceReplicate]) ?_)
        rw [hl0] at hfl hAt hAl'
        simp (maxSteps := 10000000) (disch := omega) only [go_sem, ltC, hid, hl0, p2, hAt, hAl', List.set_cons_zero, List.set_cons_succ, List.getD_cons_zero, List.getD_cons_succ, reduceIte, seval, -BitVec.isValue, -BitVec.reduceOfNat, -List.reduceReplicate]
        exact ⟨by rw [hfl], hfin⟩
end Go.Lv
namespace Go.Lv
open Go Go.Proofs
set_option linter.unusedSimpArgs false
set_option maxRecDepth 100000
@[go_sem] theorem id_args (Hc : List (Nat × Seg)) (m : List (Nat × Nat)) (X Y : List AV) : ∀ d : By, argsR Hc m (d.map AV.u8 ++ X) (d.map AV.u8 ++ Y) = argsR Hc m X Y
  | [] => rfl
  | x :: d => by
    show (AV.u8 x = frz Hc 8 false (AV.u8 x) ∧ argsR Hc m (d.map AV.u8 ++ X) (d.map AV.u8 ++ Y)) = _
    rw [id_args Hc m X Y d]
    exact propext ⟨fun h => h.2, fun h => ⟨rfl, h⟩⟩
def ltR (k : LK) (L : List (Nat × Nat)) (n : Nat) : AV := .rop true (ltC k (.ros false L.length (lsC k L)) n)
def σlg (k : LK) (n : Nat) : St :=
  ⟨[(1, .ptr 0 0), (4, .ptr 1 0)], [(0, ⟨lkC k, true⟩), (1, ⟨ltC k (.sl 2 0 (lsk n 0).length 3) n, true⟩), (2, ⟨lsC k (lsk n 0), false⟩)], 3⟩
theorem pw_lt {H n : Nat} (hH : H ≤ 4) (hn : n ≤ 2 ^ H) : (BitVec.ofNat 64 n < pw H) ↔ n < 2 ^ H := by
  have h16 : 2 ^ H ≤ 2 ^ 4 := Nat.pow_le_pow_right (n := 2) (by omega) hH
  rw [BitVec.lt_def, pw, BitVec.toNat_ofNat, BitVec.toNat_ofNat]
  omega
set_option maxHeartbeats 4000000 in
theorem lgrown_fun (k : LK) (hk : LKok k) (hH : k.l.h.toNat ≤ 4) : Fun Tryz.prog Gs 234 [K k] (.tup [ltR k (lsk (2 ^ k.l.h.toNat) 0) (2 ^ k.l.h.toNat), .i 0]) := by
  have hid := hk.i
  have hf := hk.kf
  have hs := hk.sm
  have hn0 := CtOK_nil (P := Tryz.prog) (Gl := Gs)
  refine Fun_cc [] mo Tryz.func234 (by decide) cc234 rs234 Tryz.ntmps234 (by simp) (AW_run hn0 1000 ?_)
  simp (maxSteps := 10000000) (disch := omega) only [go_sem, c234, K, lkC, hid, reduceIte, seval, -BitVec.isValue, -BitVec.reduceOfNat, -List.reduceReplicate]
  refine AW_nulC 1 27 3 (seg := ⟨ltC k .nils 0, true⟩) (by simp only [go_sem, ltC, reduceIte, seval, -BitVec.isValue, -BitVec.reduceOfNat, -List.reduceReplicate]; try simp) (by simp [ltC, List.getElem?_append, hid]) (by simp only; omega) ?_
  have hgr := fun n hn => ladd_funG k n hk hH hn
  have hlt := fun n hn => pw_lt (n := n) hH hn
  obtain ⟨P, hP⟩ : ∃ P, P = 2 ^ k.l.h.toNat := ⟨_, rfl⟩
  have hP16 : P ≤ 16 := by rw [hP]; exact Nat.pow_le_pow_right (n := 2) (by omega) hH
  rw [← hP] at hgr hlt ⊢
  refine AW_loop (σlg k) (fun n => n ≤ P) (fun n => P - n) 0 (Nat.zero_le _) (Wk_p [] ?_) fun n hn => ?_
  · simp (maxSteps := 10000000) (disch := omega) only [go_sem, σlg, mapH, ltC, lkC, hid, lsk_zero, List.set_cons_zero, List.set_cons_succ, reduceIte, seval, -BitVec.isValue, -BitVec.reduceOfNat, -List.reduceReplicate]
    simp [lsC, id_set, hid]
  · have hsl := lsC_len k (lsk n 0)
    have hstl : (lsC k (lsk n 0)).take ((lsk n 0).length * 3) = lsC k (lsk n 0) := List.take_of_length_le (by rw [lsC_len]; omega)
    have hct := ctKLeaves_ok (k := k) hn0
    by_cases hc : n < P
    · have hc' := (hlt n hn).2 hc
      refine AW_ct [ctKLeaves k] (AW_run hct 1000 ?_)
      simp (maxSteps := 10000000) (disch := omega) only [go_sem, σlg, ctKLeaves, K, ltC, lkC, hid, hf, eq_true hc', reduceIte, seval, -BitVec.isValue, -BitVec.reduceOfNat, -List.reduceReplicate]
      refine AW_callGd [(0, 1), (1, 2)] [(4, 3)] 4 [] false [] [] (by simp only [go_sem, reduceIte, seval, -BitVec.isValue, -BitVec.reduceOfNat, -List.reduceReplicate]) (by simp only [go_sem, reduceIte, seval, -BitVec.isValue, -BitVec.reduceOfNat, -List.reduceReplicate]) (hgr n hc) (by rfl) (.inr rfl) (by simp only [go_sem, reduceIte, seval, -BitVec.isValue, -BitVec.reduceOfNat, -List.reduceReplicate]) (by rfl) (by simp only [go_sem, reduceIte, seval, -BitVec.isValue, -BitVec.reduceOfNat, -List.reduceReplicate]; try simp) (by simp only [go_sem, ltC, reduceIte, seval, -BitVec.isValue, -BitVec.reduceOfNat, -List.reduceReplicate]; try simp) (by simp only [go_sem, reduceIte, seval, -BitVec.isValue, -BitVec.reduceOfNat, -List.reduceReplicate]) (by simp only [go_sem, ltC, reduceIte, seval, -BitVec.isValue, -BitVec.reduceOfNat, -List.reduceReplicate]) ?_
      refine AW_ct [] (AW_run hn0 1000 ?_)
      simp (maxSteps := 10000000) (disch := omega) only [go_sem, ltC, reduceIte, seval, -BitVec.isValue, -BitVec.reduceOfNat, -List.reduceReplicate]
      refine ⟨n + 1, by omega, Wk_p [(2, 3)] ?_, by omega⟩
      simp only [go_sem, σlg, ltC, lkC, reduceIte, seval, -BitVec.isValue, -BitVec.reduceOfNat, -List.reduceReplicate]
      try simp
    · have hc' : ¬ BitVec.ofNat 64 n < pw k.l.h.toNat := fun q => hc ((hlt n hn).1 q)
      have hge : n = P := by omega
      subst hge
      refine AW_ct [ctKLeaves k] (AW_run hct 1000 ?_)
      simp (maxSteps := 10000000) (disch := omega) only [go_sem, σlg, ctKLeaves, K, ltC, ltR, lkC, hid, hf, hstl, hsl, eq_false hc', reduceIte, seval, -BitVec.isValue, -BitVec.reduceOfNat, -List.reduceReplicate]
      try simp
theorem lroot_len {k : LK} (hk : LKok k) : (lroot k).length = k.o.n.toNat := lnode_len hk _ _
def rootR (l : Lms) (o : Ots) (id seed : By) : AV := if mdE l o seed = 0 then .tup [Enc.ret (lroot ⟨l, o, id, seed⟩), .i 0] else nilE (mdE l o seed)
set_option maxHeartbeats 2000000 in
theorem lRoot_fun (l : Lms) (o : Ots) (id seed : By) (hid : id.length = 16) (hsd : seed.length ≤ 140737488351232) (hH : mdE l o seed = 0 → l.h.toNat ≤ 4) : Fun Tryz.prog Gs 190 [Enc.enc l, Enc.enc o, Enc.enc (⟨id⟩ : Ar (BitVec 8)), Enc.enc seed] (rootR l o id seed) := by
  have hit : id.take 16 = id := List.take_of_length_le (by omega)
  by_cases h0 : mdE l o seed = 0
  · have hk := mdE_ok h0 hid
    have hH := hH h0
    have hK : mdK l o id seed = .agg (lkR ⟨l, o, id, seed⟩) := by rw [mdK, if_pos h0]
    rw [rootR, if_pos h0]
    have hct := ctMade_ok (ct1_ok (lgrown_fun ⟨l, o, id, seed⟩ hk hH) (ct1_ok (ltopV_all ⟨l, o, id, seed⟩ hk hH) (CtOK_nil (P := Tryz.prog) (Gl := Gs))))
    obtain ⟨L, hL⟩ : ∃ L, L = lsk (2 ^ l.h.toNat) 0 := ⟨_, rfl⟩
    have hlen := lsC_len ⟨l, o, id, seed⟩ L
    rw [show (LK.mk l o id seed).l.h.toNat = l.h.toNat from rfl, ← hL] at hct
    refine Fun_cc _ mo Tryz.func190 (by decide) cc190 rs190 Tryz.ntmps190 (by simp) (AW_run hct 1000 ?_)
    simp (maxSteps := 10000000) (disch := omega) only [go_sem, c190, ctMade, ct1, ltR, ltV, ltC, K, lkC, lkR, hK, h0, hid, hit, hsd, reduceIte, seval, -BitVec.isValue, -BitVec.reduceOfNat, -List.reduceReplicate]
    try simp
  · have hK : mdK l o id seed = .agg zk := by rw [mdK, if_neg h0]
    rw [rootR, if_neg h0]
    obtain ⟨e, he⟩ : ∃ e, e = mdE l o seed := ⟨_, rfl⟩
    rw [← he] at h0 ⊢
    have hct := ctMade_ok (CtOK_nil (P := Tryz.prog) (Gl := Gs))
    refine Fun_cc _ mo Tryz.func190 (by decide) cc190 rs190 Tryz.ntmps190 (by simp) (AW_run hct 1000 ?_)
    simp (maxSteps := 10000000) (disch := omega) only [go_sem, c190, ctMade, hK, ← he, eq_false h0, hid, hit, hsd, zk, nilE, reduceIte, seval, -BitVec.isValue, -BitVec.reduceOfNat, -List.reduceReplicate]
    try simp
def ctLRoot : Nat × (List AV → R) := (190, A4 fun (l : Lms) (o : Ots) (id : Ar (BitVec 8)) (seed : By) => (id.l.length = 16 ∧ seed.length ≤ 140737488351232 ∧ (mdE l o seed = 0 → l.h.toNat ≤ 4), rootR l o id.l seed))
theorem ctLRoot_ok {Ct : List (Nat × (List AV → R))} (h : CtOK Tryz.prog Gs Ct) : CtOK Tryz.prog Gs (ctLRoot :: Ct) := CtOK_cons (Row4 fun l o id seed h => lRoot_fun l o id.l seed h.1 h.2.1 h.2.2) h
end Go.Lv
