/- A part of the proof (GP). -/
import Derived.Test.YtjehnljbhmjgoaaGreatDoorGN
import Derived.Test.YtjehnljbhmjgoaaGreatDoorGM
import Derived.Test.YtjehnljbhmjgoaaGreatDoorGK
import Derived.Test.YtjehnljbhmjgoaaGreatDoorGO
set_option linter.all false
namespace Go.Lv
open Go Go.Proofs
set_option linter.unusedSimpArgs false
set_option maxRecDepth 100000
def oc (i : Nat) : BitVec 32 := BitVec.ofNat 32 (i + 1)
end Go.Lv
namespace Go.Lv
open Go Go.Proofs
set_option linter.unusedSimpArgs false
set_option maxRecDepth 100000
end Go.Lv
namespace Go.Lv
open Go Go.Proofs
set_option linter.unusedSimpArgs false
set_option maxRecDepth 100000
end Go.Lv
