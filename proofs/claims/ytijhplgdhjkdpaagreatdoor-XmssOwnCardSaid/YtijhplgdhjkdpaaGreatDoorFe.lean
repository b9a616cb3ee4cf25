/- A part of the proof. -/
import Derived.Test.YtijhplgdhjkdpaaGreatDoorGF
set_option linter.all false
namespace Go.Lv
open Go Go.Proofs
set_option linter.unusedSimpArgs false
set_option maxRecDepth 100000

/-! ## Law: chains compose -/
theorem wchR_ok {x : Xms} {b seed : By} {ws : List (BitVec 32)} {f t : Nat} (h : wmayE x [b, seed] = 0) (hf : f + t ≤ 15) : wchR x b (f : Int) (t : Int) seed ws = .tup [Enc.ret (goS x seed ws f t b), .i 0] := by
  have e : wchE x b (f : Int) (t : Int) seed = 0 := by rw [wchE, if_pos h, if_neg (by omega)]
  rw [wchR, if_pos e]; rfl
theorem wchR_no {x : Xms} {b seed : By} {ws : List (BitVec 32)} {f t : Int} (h : ¬ wmayE x [b, seed] = 0) : wchR x b f t seed ws = .tup [.ros true 0 [], .i (wmayE x [b, seed])] := by
  have e : wchE x b f t seed = wmayE x [b, seed] := by rw [wchE, if_neg h]
  rw [wchR, e, if_neg h]
theorem wmayE_mk {x : Xms} {a b : By} (hx : xmsT x.code = some x) (ha : (a.length : Int) = x.n) (hb : (b.length : Int) = x.n) : wmayE x [a, b] = 0 := by
  rw [wmayE, if_pos hx, if_pos]
  intro p hp
  simp only [List.mem_cons, List.not_mem_nil, or_false] at hp
  rcases hp with rfl | rfl <;> assumption
end Go.Lv
