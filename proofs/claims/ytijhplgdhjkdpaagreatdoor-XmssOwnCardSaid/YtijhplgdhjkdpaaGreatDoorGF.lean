/- A part of the proof (GF). -/
import Derived.Test.YtijhplgdhjkdpaaGreatDoorGQ
set_option linter.all false
namespace Go.Lv
open Go Go.Proofs
set_option linter.unusedSimpArgs false
set_option maxRecDepth 100000

/-! ## Laws: keyed sums, digits -/
def sumV (x : Xms) (k : BitVec 64) (key m : By) : By := if xmsT x.code = some x then kyS x k key m else []
theorem sumR_eq (x : Xms) (k : BitVec 64) (key m : By) : sumR x k key m = Enc.ret (sumV x k key m) := by
  unfold sumR sumV; split <;> rfl
theorem few2 {a b : By} (h : fewP [a, b]) : a.length ≤ 5000 ∧ b.length ≤ 5000 := ⟨h a (by simp), h b (by simp)⟩
theorem few1 {a : By} (h : fewP [a]) : a.length ≤ 5000 := h a (by simp)
end Go.Lv

