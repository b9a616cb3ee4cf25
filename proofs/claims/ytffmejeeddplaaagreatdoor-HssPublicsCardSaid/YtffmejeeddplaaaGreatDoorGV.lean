/- A part of the proof (GV). -/
import Derived.Test.YtffmejeeddplaaaGreatDoorGL
import Derived.Test.YtffmejeeddplaaaGreatDoorGX
import Derived.Test.YtffmejeeddplaaaGreatDoorGK
set_option linter.all false
namespace Go.Lv
open Go Go.Proofs
set_option linter.unusedSimpArgs false
set_option maxRecDepth 100000
end Go.Lv
