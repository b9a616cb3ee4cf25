/- A part of the proof. -/
import Derived.Test.YtijhplgdhjkdpaaGreatDoorIk
import Derived.Test.YtijhplgdhjkdpaaGreatDoorHy
import Derived.Test.YtijhplgdhjkdpaaGreatDoorGK
set_option linter.all false
namespace Go.Lv
open Go Go.Proofs
set_option linter.unusedSimpArgs false
set_option maxRecDepth 100000

/-! ## Public key and signature: the reference -/
def ctRPath1 (x : Xms) (k : XKey) (i : Nat) : Nat × (List AV → R) := (26, fun a => (a = [Enc.enc (rowsS x k (x.h.toNat + 1)), Enc.enc (BitVec.ofNat 32 i)], Enc.ret (pathS x k.seed k.pub i)))
theorem ctRPath1_ok {x : Xms} {k : XKey} {i : Nat} (hK : KOK x k) (hh : x.h.toNat ≤ 4) (hi : i < 2 ^ x.h.toNat) {Ct : List (Nat × (List AV → R))} (h : CtOK Tryz.prog Gs Ct) : CtOK Tryz.prog Gs (ctRPath1 x k i :: Ct) := CtOK_cons (fun a e => by
  have e : a = [Enc.enc (rowsS x k (x.h.toNat + 1)), Enc.enc (BitVec.ofNat 32 i)] := e
  subst e; exact rPath_fun x k i hK hh hi) h
set_option maxHeartbeats 2000000 in
theorem rPublic_fun (x : Xms) (k : XKey) (hK : KOK x k) (hh : x.h.toNat ≤ 4) : Fun Tryz.prog Gs 25 [Enc.enc x, Enc.enc k, Enc.enc (rowsS x k (x.h.toNat + 1))] (Enc.ret (pubXS x k)) := by
  have hct := mark_ok 15 (ctRBig_ok (ctRRoot1_ok (x := x) (k := k) hK hh (ctJoin_ok (CtOK_nil (P := Tryz.prog) (Gl := Gs)))))
  have hn := hK.n
  have hb := hK.b
  have hrl := rootS_len hK
  have hbl : (wd4 x.code).length = 4 := bigL_len _ _
  have hwd : bigL (x.code.setWidth 64) 4 = wd4 x.code := rfl
  have hfl : [wd4 x.code, rootS x k, k.pub].flatten = pubXS x k := by simp [pubXS]
  have hpl : (pubXS x k).length = 4 + x.n.toNat + x.n.toNat := by simp [pubXS, hbl, hrl]; omega
  have hsl := rowsS_len x k (x.h.toNat + 1)
  have i4 : Int.toNat 4 = 4 := rfl
  refine Fun_cc _ mo Tryz.func25 (by decide) cc25 rs25 Tryz.ntmps25 (by simp) (AW_run hct 1000 ?_)
  simp (maxSteps := 10000000) (disch := omega) only [go_sem, c25, mark, ctRBig, ctRRoot1, ctJoin, xmC, hwd, hbl, hrl, hfl, hpl, hsl, i4, deL_cons, deL_nil, reduceIte, seval, -BitVec.isValue, -BitVec.reduceOfNat, -List.reduceReplicate]
  try simp
def ctRPub1 (x : Xms) (k : XKey) : Nat × (List AV → R) := (25, fun a => (a = [Enc.enc x, Enc.enc k, Enc.enc (rowsS x k (x.h.toNat + 1))], Enc.ret (pubXS x k)))
theorem ctRPub1_ok {x : Xms} {k : XKey} (hK : KOK x k) (hh : x.h.toNat ≤ 4) {Ct : List (Nat × (List AV → R))} (h : CtOK Tryz.prog Gs Ct) : CtOK Tryz.prog Gs (ctRPub1 x k :: Ct) := CtOK_cons (fun a e => by
  have e : a = [Enc.enc x, Enc.enc k, Enc.enc (rowsS x k (x.h.toNat + 1))] := e
  subst e; exact rPublic_fun x k hK hh) h
set_option maxHeartbeats 4000000 in
theorem rXSign_fun (x : Xms) (k : XKey) (i : BitVec 32) (msg : By) (hm : msg.length ≤ 100000000) (hK : KOK x k) (hh : x.h.toNat ≤ 4) (hlt : i.toNat < 2 ^ x.h.toNat) :
    Fun Tryz.prog Gs 28 [Enc.enc x, Enc.enc k, Enc.enc (rowsS x k (x.h.toNat + 1)), Enc.enc i, Enc.enc msg] (Enc.ret (sgnS x k i msg)) := by
  have hx := hK.ok
  have hn := hK.n
  have hks := hK.s
  have hkp := hK.p
  have hkb := hK.b
  have hii : BitVec.ofNat 32 i.toNat = i := by simp
  have hm4 : x.h.toNat * x.n.toNat ≤ 4 * 32 := Nat.mul_le_mul (by omega) (by omega)
  have hm5 : x.len.toNat * x.n.toNat ≤ 67 * 32 := Nat.mul_le_mul (by omega) (by omega)
  obtain ⟨l1, l2, l3, l4, l5⟩ := sgn_lens hK i msg
  have l6 := rootS_len hK
  have l7 := nmS_len i 32 (by omega)
  have hbn := big_num i 32 (by omega)
  have n3 : BitVec.ofNat 64 (Int.toNat 3) = 3#64 := rfl
  have hR : kyS x 3#64 k.prf (nmS i 32) = sgnR x k i := rfl
  have hM : smS x (sgnR x k i) (rootS x k) i msg = sgnM x k i msg := rfl
  have hE : ends x.len.toNat (endF x k.seed k.pub (adO i) (dgN (sgnM x k i msg))) = sgnE x k i msg := rfl
  have hMl : ((sgnM x k i msg).length : Int) = x.n := by rw [l3]; omega
  obtain ⟨hd1, hd2⟩ := xms_dig hx hMl
  have hwl : (adO i).length = 8 := rfl
  have hwt : (adO i).take 8 = adO i := rfl
  have hwe : adK (BitVec.ofInt 32 0) i 0#32 0#32 = adO i := rfl
  have hwe3 : adK 0#32 i (0 : BitVec 32) (0 : BitVec 32) = adO i := rfl
  have hwe2 : adK 0#32 i 0#32 0#32 = adO i := rfl
  have hwe' : adK (BitVec.ofInt 32 0) i (0 : BitVec 32) (0 : BitVec 32) = adO i := rfl
  have hwd : bigL (i.setWidth 64) 4 = wd4 i := rfl
  have hfl : [wd4 i, sgnR x k i, sgnE x k i msg, pathS x k.seed k.pub i.toNat].flatten = sgnS x k i msg := by simp [sgnS]
  have hsl : (sgnS x k i msg).length = 4 + x.n.toNat + x.len.toNat * x.n.toNat + x.h.toNat * x.n.toNat := by simp [sgnS, l1, l2, l4, l5]; omega
  have hrl := rowsS_len x k (x.h.toNat + 1)
  have i32 : Int.toNat 32 = 32 := rfl
  have i4 : Int.toNat 4 = 4 := rfl
  have hct := mark_ok 44 (ctRBig_ok (ctRKeyed_ok (ctRRoot1_ok (x := x) (k := k) hK hh (ctRSummed_ok (ctRWdg_ok (ctRXAt_ok (ctREnds1_ok (rEndsS_fun x k.seed k.pub (sgnM x k i msg) (adO i) hx (by omega) (by omega) rfl hd1 hd2) (ctRPath1_ok (x := x) (k := k) (i := i.toNat) hK hh hlt (ctJoin_ok (CtOK_nil (P := Tryz.prog) (Gl := Gs)))))))))))
  refine Fun_cc _ mo Tryz.func28 (by decide) cc28 rs28 Tryz.ntmps28 (by simp) (AW_run hct 1000 ?_)
  simp (maxSteps := 10000000) (disch := omega) only [go_sem, c28, mark, ctRBig, ctRKeyed, ctRRoot1, smA, ctWdg, ctRXAt, ctREnds1, ctRPath1, ctJoin, xmC, hii, hx, hbn, n3, hR, hM, hE, i32, i4, hwe, hwe', hwe2, hwe3, hwl, hwt, hwd, l1, l2, l3, l4, l5, l6, l7, hfl, hsl, hrl, deL_cons, deL_nil, reduceIte, seval, -BitVec.isValue, -BitVec.reduceOfNat, -List.reduceReplicate]
  try simp
def ctRXSign1 (x : Xms) (k : XKey) (i : BitVec 32) (msg : By) : Nat × (List AV → R) := (28, fun a => (a = [Enc.enc x, Enc.enc k, Enc.enc (rowsS x k (x.h.toNat + 1)), Enc.enc i, Enc.enc msg], Enc.ret (sgnS x k i msg)))
theorem ctRXSign1_ok {x : Xms} {k : XKey} {i : BitVec 32} {msg : By} (hm : msg.length ≤ 100000000) (hK : KOK x k) (hh : x.h.toNat ≤ 4) (hlt : i.toNat < 2 ^ x.h.toNat) {Ct : List (Nat × (List AV → R))} (h : CtOK Tryz.prog Gs Ct) : CtOK Tryz.prog Gs (ctRXSign1 x k i msg :: Ct) := CtOK_cons (fun a e => by
  have e : a = [Enc.enc x, Enc.enc k, Enc.enc (rowsS x k (x.h.toNat + 1)), Enc.enc i, Enc.enc msg] := e
  subst e; exact rXSign_fun x k i msg hm hK hh hlt) h
end Go.Lv
