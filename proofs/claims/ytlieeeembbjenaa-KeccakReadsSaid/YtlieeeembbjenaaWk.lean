/- A part of the proof. -/
import Derived.Test.YtlieeeembbjenaaWi
import Derived.Test.YtlieeeembbjenaaWj
set_option linter.all false
namespace Go.Lv
open Go Go.Proofs
theorem KReads_fun (wide : Bool) (text : List (BitVec 8)) (ts : List (Int × Bool)) (ht : text.length ≤ 140737488351232) (hts : ts.length ≤ 140737488351232) : Fun Try.prog [] 12 [Enc.enc wide, Enc.enc text, .ros false ts.length (tcs ts)] (.b true) := by
  cases wide
  · exact KReads_f text ts ht hts
  · exact KReads_t text ts ht hts
end Go.Lv
