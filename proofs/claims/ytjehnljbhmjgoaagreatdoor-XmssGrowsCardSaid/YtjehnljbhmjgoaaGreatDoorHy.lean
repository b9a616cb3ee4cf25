/- A part of the proof. -/
import Derived.Test.YtjehnljbhmjgoaaGreatDoorGJ
import Derived.Test.YtjehnljbhmjgoaaGreatDoorGI
set_option linter.all false
namespace Go.Lv
open Go Go.Proofs
set_option linter.unusedSimpArgs false
set_option maxRecDepth 100000
end Go.Lv
