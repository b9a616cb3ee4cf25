/- A part of the proof. -/
import Derived.Test.YtijhplgdhjkdpaaGreatDoorFo
import Derived.Test.YtijhplgdhjkdpaaGreatDoorFe
set_option linter.all false
namespace Go.Lv
open Go Go.Proofs
set_option linter.unusedSimpArgs false
set_option maxRecDepth 100000

theorem on_sign {x : Xms} (hx : xmsT x.code = some x) (sk seed m : By) (ws : List (BitVec 32)) (hm : m.length ≤ 32) :
    ends x.len.toNat (onF x seed m (ends x.len.toNat (endF x sk seed ws (dgN m))) ws) = ends x.len.toNat (endF x sk seed ws pubN) := by
  refine ends_congr _ fun i hi => ?_
  have hd := dgN_le m i hm
  rw [onF, sigP, ends_at _ (endF_len hx sk seed ws (dgN m)) _ _ hi, endF, endF, pubN]
  have := goS_add x seed (w5 ws i) 0 (dgN m i) (15 - dgN m i) (begK x sk seed ws i)
  rw [show dgN m i + (15 - dgN m i) = 15 by omega, Nat.zero_add] at this
  exact this.symm
end Go.Lv
