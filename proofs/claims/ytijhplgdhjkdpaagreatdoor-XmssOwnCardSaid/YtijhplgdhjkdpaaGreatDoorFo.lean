/- A part of the proof. -/
import Derived.Test.YtijhplgdhjkdpaaGreatDoorGG
import Derived.Test.YtijhplgdhjkdpaaGreatDoorGF
set_option linter.all false
namespace Go.Lv
open Go Go.Proofs
set_option linter.unusedSimpArgs false
set_option maxRecDepth 100000

/-! ## Laws: where chains end, signatures -/
theorem few3 {a b c : By} (h : fewP [a, b, c]) : a.length ≤ 5000 ∧ b.length ≤ 5000 ∧ c.length ≤ 5000 := ⟨h a (by simp), h b (by simp), h c (by simp)⟩
end Go.Lv
