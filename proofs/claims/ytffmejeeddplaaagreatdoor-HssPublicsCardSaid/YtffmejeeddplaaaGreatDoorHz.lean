/- A part of the proof. -/
import Derived.Test.YtffmejeeddplaaaGreatDoorFF
import Derived.Test.YtffmejeeddplaaaGreatDoorGK
set_option linter.all false
namespace Go.Lv
open Go Go.Proofs
set_option linter.unusedSimpArgs false
def ct1 (n : Nat) (az : List AV) (r : AV) : Nat × (List AV → R) := (n, fun a => (a = az, r))
theorem ct1_ok {n : Nat} {az : List AV} {r : AV} (hf : Fun Tryz.prog Gs n az r) {Ct : List (Nat × (List AV → R))} (h : CtOK Tryz.prog Gs Ct) : CtOK Tryz.prog Gs (ct1 n az r :: Ct) := CtOK_cons (fun a e => by
  have e : a = az := e
  subst e; exact hf) h
end Go.Lv
