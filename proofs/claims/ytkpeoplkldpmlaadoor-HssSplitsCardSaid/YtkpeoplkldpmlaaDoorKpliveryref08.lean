/- A part of the proof. -/
import Derived.Test.YtkpeoplkldpmlaaDoorGK
set_option linter.all false
namespace Go.Lv
open Go Go.Proofs
set_option maxRecDepth 100000
-- FN 144 livery/liveryref08.Leaves ntmps 6 params #[113]
def c144 : List C := [.o (.bx 1 113 (.t 0)),
 .o (.mv 2 (.c (.u64 0))),
 .o (.fa 3 113 (.t 1) 3),
 .o (.ld 4 3 (.t 3)),
 .o (.call 5 (.f 204) [(.t 4)]),
 .o (.mv 2 (.t 5)),
 .ret]
theorem cc144 : Tryd.f144.body.map cc = some c144 := by kernel_rfl
theorem rs144 : Tryd.f144.results.toList.map cRS = [.t 2] := by kernel_rfl
-- FN 204 livery/liveryref08.power ntmps 11 params #[3]
def c204 : List C := [.o (.mv 2 (.c (.u64 0))),
 .o (.mv 3 (.c (.u64 1))),
 .o (.mv 4 (.t 0)),
 .o (.mv 5 (.c (.i 0))),
 .blk 0 [.lp [.o (.bin 6 .lss 3 (.t 5) (.t 4)),
   .ite (.t 6) []
    [.ex 0],
   .blk 1 [.o (.mv 7 (.t 3)),
    .o (.bin 8 .mul 83 (.t 7) (.c (.u64 2))),
    .o (.mv 3 (.t 8))],
   .o (.bin 9 .add 3 (.t 5) (.c (.i 1))),
   .o (.mv 5 (.t 9))]],
 .o (.mv 10 (.t 3)),
 .o (.mv 2 (.t 10)),
 .ret]
theorem cc204 : Tryd.f204.body.map cc = some c204 := by kernel_rfl
theorem rs204 : Tryd.f204.results.toList.map cRS = [.t 2] := by kernel_rfl
end Go.Lv
