/- A part of the proof (GK). -/
import Derived.Test.YtjenbilhieomoaaDoorFE
import Derived.Test.YtjenbilhieomoaaDoorProg
import Derived.KernelRfl
set_option linter.all false
namespace Go.Lv
open Go Go.Proofs
set_option maxRecDepth 100000
-- TY 3 int
@[go_sem] theorem tt3 : tiOf Tryd.prog 3 = ⟨.i64, 1, 8, [(.i 0)], none, true⟩ := by kernel_rfl
-- TY 4 bool
@[go_sem] theorem tt4 : tiOf Tryd.prog 4 = ⟨.bool, 1, 1, [(.b false)], none, true⟩ := by kernel_rfl
-- TY 5 uint8
@[go_sem] theorem tt5 : tiOf Tryd.prog 5 = ⟨.u8, 1, 1, [(.u8 0)], none, true⟩ := by kernel_rfl
-- TY 9 string
@[go_sem] theorem tt9 : tiOf Tryd.prog 9 = ⟨.str, 1, 16, [(.s ⟨#[]⟩)], none, true⟩ := by kernel_rfl
-- TY 22 uint32
@[go_sem] theorem tt22 : tiOf Tryd.prog 22 = ⟨.u32, 1, 4, [(.u32 0)], none, true⟩ := by kernel_rfl
-- TY 23 [16]uint8
@[go_sem] theorem tt23 : tiOf Tryd.prog 23 = ⟨(.arr 16 5), 16, 16, [(.u8 0), (.u8 0), (.u8 0), (.u8 0), (.u8 0), (.u8 0), (.u8 0), (.u8 0), (.u8 0), (.u8 0), (.u8 0), (.u8 0), (.u8 0), (.u8 0), (.u8 0), (.u8 0)], (some [false, false, false, false, false, false, false, false, false, false, false, false, false, false, false, false]), true⟩ := by kernel_rfl
-- TY 24 []uint8
@[go_sem] theorem tt24 : tiOf Tryd.prog 24 = ⟨(.sl 5), 1, 24, [.nils], none, true⟩ := by kernel_rfl
-- TY 26 liverylaw07.Leaf
@[go_sem] theorem tt26 : tiOf Tryd.prog 26 = ⟨(.st [(0, 22), (1, 23), (17, 22), (18, 24)]), 19, 48, [(.u32 0), (.u8 0), (.u8 0), (.u8 0), (.u8 0), (.u8 0), (.u8 0), (.u8 0), (.u8 0), (.u8 0), (.u8 0), (.u8 0), (.u8 0), (.u8 0), (.u8 0), (.u8 0), (.u8 0), (.u32 0), .nils], none, true⟩ := by kernel_rfl
-- TY 29 api.Ots
@[go_sem] theorem tt29 : tiOf Tryd.prog 29 = ⟨(.st [(0, 22), (1, 4), (2, 3), (3, 3), (4, 3), (5, 3)]), 6, 40, [(.u32 0), (.b false), (.i 0), (.i 0), (.i 0), (.i 0)], (some [false, true, false, false, false, false]), true⟩ := by kernel_rfl
-- TY 31 api.Errno
@[go_sem] theorem tt31 : tiOf Tryd.prog 31 = ⟨.i64, 1, 8, [(.i 0)], none, true⟩ := by kernel_rfl
-- TY 41 api.Lms
@[go_sem] theorem tt41 : tiOf Tryd.prog 41 = ⟨(.st [(0, 22), (1, 4), (2, 3), (3, 3)]), 4, 24, [(.u32 0), (.b false), (.i 0), (.i 0)], (some [false, true, false, false]), true⟩ := by kernel_rfl
-- TY 43 liverylaw08.Key
@[go_sem] theorem tt43 : tiOf Tryd.prog 43 = ⟨(.st [(0, 41), (4, 29), (10, 23), (26, 24)]), 27, 104, [(.u32 0), (.b false), (.i 0), (.i 0), (.u32 0), (.b false), (.i 0), (.i 0), (.i 0), (.i 0), (.u8 0), (.u8 0), (.u8 0), (.u8 0), (.u8 0), (.u8 0), (.u8 0), (.u8 0), (.u8 0), (.u8 0), (.u8 0), (.u8 0), (.u8 0), (.u8 0), (.u8 0), (.u8 0), .nils], none, true⟩ := by kernel_rfl
-- TY 51 *lms.Tree
@[go_sem] theorem tt51 : tiOf Tryd.prog 51 = ⟨.ptr, 1, 8, [.nilp], none, true⟩ := by kernel_rfl
-- TY 53 lms.key
@[go_sem] theorem tt53 : tiOf Tryd.prog 53 = ⟨(.st [(0, 41), (4, 29), (10, 23), (26, 24)]), 27, 104, [(.u32 0), (.b false), (.i 0), (.i 0), (.u32 0), (.b false), (.i 0), (.i 0), (.i 0), (.i 0), (.u8 0), (.u8 0), (.u8 0), (.u8 0), (.u8 0), (.u8 0), (.u8 0), (.u8 0), (.u8 0), (.u8 0), (.u8 0), (.u8 0), (.u8 0), (.u8 0), (.u8 0), (.u8 0), .nils], none, true⟩ := by kernel_rfl
-- TY 54 []lms.held
@[go_sem] theorem tt54 : tiOf Tryd.prog 54 = ⟨(.sl 97), 1, 24, [.nils], none, true⟩ := by kernel_rfl
-- TY 55 uint64
@[go_sem] theorem tt55 : tiOf Tryd.prog 55 = ⟨.u64, 1, 8, [(.u64 0)], none, true⟩ := by kernel_rfl
-- TY 57 lms.Tree
@[go_sem] theorem tt57 : tiOf Tryd.prog 57 = ⟨(.st [(0, 53), (27, 54), (28, 55)]), 29, 136, [(.u32 0), (.b false), (.i 0), (.i 0), (.u32 0), (.b false), (.i 0), (.i 0), (.i 0), (.i 0), (.u8 0), (.u8 0), (.u8 0), (.u8 0), (.u8 0), (.u8 0), (.u8 0), (.u8 0), (.u8 0), (.u8 0), (.u8 0), (.u8 0), (.u8 0), (.u8 0), (.u8 0), (.u8 0), .nils, .nils, (.u64 0)], none, true⟩ := by kernel_rfl
-- TY 58 []*lms.Tree
@[go_sem] theorem tt58 : tiOf Tryd.prog 58 = ⟨(.sl 51), 1, 24, [.nils], none, true⟩ := by kernel_rfl
-- TY 60 []int
@[go_sem] theorem tt60 : tiOf Tryd.prog 60 = ⟨(.sl 3), 1, 24, [.nils], none, true⟩ := by kernel_rfl
-- TY 61 [][]uint8
@[go_sem] theorem tt61 : tiOf Tryd.prog 61 = ⟨(.sl 24), 1, 24, [.nils], none, true⟩ := by kernel_rfl
-- TY 65 iter.Seq2[int,[]uint8]
@[go_sem] theorem tt65 : tiOf Tryd.prog 65 = ⟨.fn, 1, 8, [.nilfn], none, true⟩ := by kernel_rfl
-- TY 76 lmots.leaf
@[go_sem] theorem tt76 : tiOf Tryd.prog 76 = ⟨(.st [(0, 29), (6, 24)]), 7, 64, [(.u32 0), (.b false), (.i 0), (.i 0), (.i 0), (.i 0), .nils], none, true⟩ := by kernel_rfl
-- TY 97 lms.held
@[go_sem] theorem tt97 : tiOf Tryd.prog 97 = ⟨(.st [(0, 3), (1, 22), (2, 24)]), 3, 40, [(.i 0), (.u32 0), .nils], none, true⟩ := by kernel_rfl
-- TY 103 uint16
@[go_sem] theorem tt103 : tiOf Tryd.prog 103 = ⟨.u16, 1, 2, [(.u16 0)], none, true⟩ := by kernel_rfl
-- TY 117 [32]uint8
@[go_sem] theorem tt117 : tiOf Tryd.prog 117 = ⟨(.arr 32 5), 32, 32, [(.u8 0), (.u8 0), (.u8 0), (.u8 0), (.u8 0), (.u8 0), (.u8 0), (.u8 0), (.u8 0), (.u8 0), (.u8 0), (.u8 0), (.u8 0), (.u8 0), (.u8 0), (.u8 0), (.u8 0), (.u8 0), (.u8 0), (.u8 0), (.u8 0), (.u8 0), (.u8 0), (.u8 0), (.u8 0), (.u8 0), (.u8 0), (.u8 0), (.u8 0), (.u8 0), (.u8 0), (.u8 0)], (some [false, false, false, false, false, false, false, false, false, false, false, false, false, false, false, false, false, false, false, false, false, false, false, false, false, false, false, false, false, false, false, false]), true⟩ := by kernel_rfl
-- TY 123 uint
@[go_sem] theorem tt123 : tiOf Tryd.prog 123 = ⟨.u64, 1, 8, [(.u64 0)], none, true⟩ := by kernel_rfl
-- TY 125 *keccak.Xof
@[go_sem] theorem tt125 : tiOf Tryd.prog 125 = ⟨.ptr, 1, 8, [.nilp], none, true⟩ := by kernel_rfl
-- TY 128 *sha2.Hash
@[go_sem] theorem tt128 : tiOf Tryd.prog 128 = ⟨.ptr, 1, 8, [.nilp], none, true⟩ := by kernel_rfl
-- TY 133 [25]uint64
@[go_sem] theorem tt133 : tiOf Tryd.prog 133 = ⟨(.arr 25 55), 25, 200, [(.u64 0), (.u64 0), (.u64 0), (.u64 0), (.u64 0), (.u64 0), (.u64 0), (.u64 0), (.u64 0), (.u64 0), (.u64 0), (.u64 0), (.u64 0), (.u64 0), (.u64 0), (.u64 0), (.u64 0), (.u64 0), (.u64 0), (.u64 0), (.u64 0), (.u64 0), (.u64 0), (.u64 0), (.u64 0)], (some [false, false, false, false, false, false, false, false, false, false, false, false, false, false, false, false, false, false, false, false, false, false, false, false, false]), true⟩ := by kernel_rfl
-- TY 135 keccak.sponge
@[go_sem] theorem tt135 : tiOf Tryd.prog 135 = ⟨(.st [(0, 133), (25, 3), (26, 3)]), 27, 216, [(.u64 0), (.u64 0), (.u64 0), (.u64 0), (.u64 0), (.u64 0), (.u64 0), (.u64 0), (.u64 0), (.u64 0), (.u64 0), (.u64 0), (.u64 0), (.u64 0), (.u64 0), (.u64 0), (.u64 0), (.u64 0), (.u64 0), (.u64 0), (.u64 0), (.u64 0), (.u64 0), (.u64 0), (.u64 0), (.i 0), (.i 0)], none, true⟩ := by kernel_rfl
-- TY 137 keccak.Xof
@[go_sem] theorem tt137 : tiOf Tryd.prog 137 = ⟨(.st [(0, 4), (1, 135), (28, 3)]), 29, 232, [(.b false), (.u64 0), (.u64 0), (.u64 0), (.u64 0), (.u64 0), (.u64 0), (.u64 0), (.u64 0), (.u64 0), (.u64 0), (.u64 0), (.u64 0), (.u64 0), (.u64 0), (.u64 0), (.u64 0), (.u64 0), (.u64 0), (.u64 0), (.u64 0), (.u64 0), (.u64 0), (.u64 0), (.u64 0), (.u64 0), (.i 0), (.i 0), (.i 0)], none, true⟩ := by kernel_rfl
-- TY 139 [8]uint32
@[go_sem] theorem tt139 : tiOf Tryd.prog 139 = ⟨(.arr 8 22), 8, 32, [(.u32 0), (.u32 0), (.u32 0), (.u32 0), (.u32 0), (.u32 0), (.u32 0), (.u32 0)], (some [false, false, false, false, false, false, false, false]), true⟩ := by kernel_rfl
-- TY 140 [64]uint8
@[go_sem] theorem tt140 : tiOf Tryd.prog 140 = ⟨(.arr 64 5), 64, 64, [(.u8 0), (.u8 0), (.u8 0), (.u8 0), (.u8 0), (.u8 0), (.u8 0), (.u8 0), (.u8 0), (.u8 0), (.u8 0), (.u8 0), (.u8 0), (.u8 0), (.u8 0), (.u8 0), (.u8 0), (.u8 0), (.u8 0), (.u8 0), (.u8 0), (.u8 0), (.u8 0), (.u8 0), (.u8 0), (.u8 0), (.u8 0), (.u8 0), (.u8 0), (.u8 0), (.u8 0), (.u8 0), (.u8 0), (.u8 0), (.u8 0), (.u8 0), (.u8 0), (.u8 0), (.u8 0), (.u8 0), (.u8 0), (.u8 0), (.u8 0), (.u8 0), (.u8 0), (.u8 0), (.u8 0), (.u8 0), (.u8 0), (.u8 0), (.u8 0), (.u8 0), (.u8 0), (.u8 0), (.u8 0), (.u8 0), (.u8 0), (.u8 0), (.u8 0), (.u8 0), (.u8 0), (.u8 0), (.u8 0), (.u8 0)], (some [false, false, false, false, false, false, false, false, false, false, false, false, false, false, false, false, false, false, false, false, false, false, false, false, false, false, false, false, false, false, false, false, false, false, false, false, false, false, false, false, false, false, false, false, false, false, false, false, false, false, false, false, false, false, false, false, false, false, false, false, false, false, false, false]), true⟩ := by kernel_rfl
-- TY 142 sha2.Hash
@[go_sem] theorem tt142 : tiOf Tryd.prog 142 = ⟨(.st [(0, 4), (1, 139), (9, 140), (73, 3), (74, 3)]), 75, 120, [(.b false), (.u32 0), (.u32 0), (.u32 0), (.u32 0), (.u32 0), (.u32 0), (.u32 0), (.u32 0), (.u8 0), (.u8 0), (.u8 0), (.u8 0), (.u8 0), (.u8 0), (.u8 0), (.u8 0), (.u8 0), (.u8 0), (.u8 0), (.u8 0), (.u8 0), (.u8 0), (.u8 0), (.u8 0), (.u8 0), (.u8 0), (.u8 0), (.u8 0), (.u8 0), (.u8 0), (.u8 0), (.u8 0), (.u8 0), (.u8 0), (.u8 0), (.u8 0), (.u8 0), (.u8 0), (.u8 0), (.u8 0), (.u8 0), (.u8 0), (.u8 0), (.u8 0), (.u8 0), (.u8 0), (.u8 0), (.u8 0), (.u8 0), (.u8 0), (.u8 0), (.u8 0), (.u8 0), (.u8 0), (.u8 0), (.u8 0), (.u8 0), (.u8 0), (.u8 0), (.u8 0), (.u8 0), (.u8 0), (.u8 0), (.u8 0), (.u8 0), (.u8 0), (.u8 0), (.u8 0), (.u8 0), (.u8 0), (.u8 0), (.u8 0), (.i 0), (.i 0)], none, true⟩ := by kernel_rfl
-- TY 149 [25]int
@[go_sem] theorem tt149 : tiOf Tryd.prog 149 = ⟨(.arr 25 3), 25, 200, [(.i 0), (.i 0), (.i 0), (.i 0), (.i 0), (.i 0), (.i 0), (.i 0), (.i 0), (.i 0), (.i 0), (.i 0), (.i 0), (.i 0), (.i 0), (.i 0), (.i 0), (.i 0), (.i 0), (.i 0), (.i 0), (.i 0), (.i 0), (.i 0), (.i 0)], (some [false, false, false, false, false, false, false, false, false, false, false, false, false, false, false, false, false, false, false, false, false, false, false, false, false]), true⟩ := by kernel_rfl
-- TY 151 [24]uint64
@[go_sem] theorem tt151 : tiOf Tryd.prog 151 = ⟨(.arr 24 55), 24, 192, [(.u64 0), (.u64 0), (.u64 0), (.u64 0), (.u64 0), (.u64 0), (.u64 0), (.u64 0), (.u64 0), (.u64 0), (.u64 0), (.u64 0), (.u64 0), (.u64 0), (.u64 0), (.u64 0), (.u64 0), (.u64 0), (.u64 0), (.u64 0), (.u64 0), (.u64 0), (.u64 0), (.u64 0)], (some [false, false, false, false, false, false, false, false, false, false, false, false, false, false, false, false, false, false, false, false, false, false, false, false]), true⟩ := by kernel_rfl
-- TY 155 [64]uint32
@[go_sem] theorem tt155 : tiOf Tryd.prog 155 = ⟨(.arr 64 22), 64, 256, [(.u32 0), (.u32 0), (.u32 0), (.u32 0), (.u32 0), (.u32 0), (.u32 0), (.u32 0), (.u32 0), (.u32 0), (.u32 0), (.u32 0), (.u32 0), (.u32 0), (.u32 0), (.u32 0), (.u32 0), (.u32 0), (.u32 0), (.u32 0), (.u32 0), (.u32 0), (.u32 0), (.u32 0), (.u32 0), (.u32 0), (.u32 0), (.u32 0), (.u32 0), (.u32 0), (.u32 0), (.u32 0), (.u32 0), (.u32 0), (.u32 0), (.u32 0), (.u32 0), (.u32 0), (.u32 0), (.u32 0), (.u32 0), (.u32 0), (.u32 0), (.u32 0), (.u32 0), (.u32 0), (.u32 0), (.u32 0), (.u32 0), (.u32 0), (.u32 0), (.u32 0), (.u32 0), (.u32 0), (.u32 0), (.u32 0), (.u32 0), (.u32 0), (.u32 0), (.u32 0), (.u32 0), (.u32 0), (.u32 0), (.u32 0)], (some [false, false, false, false, false, false, false, false, false, false, false, false, false, false, false, false, false, false, false, false, false, false, false, false, false, false, false, false, false, false, false, false, false, false, false, false, false, false, false, false, false, false, false, false, false, false, false, false, false, false, false, false, false, false, false, false, false, false, false, false, false, false, false, false]), true⟩ := by kernel_rfl
-- TY 158 [5]uint64
@[go_sem] theorem tt158 : tiOf Tryd.prog 158 = ⟨(.arr 5 55), 5, 40, [(.u64 0), (.u64 0), (.u64 0), (.u64 0), (.u64 0)], (some [false, false, false, false, false]), true⟩ := by kernel_rfl
/-- the package's variables: the state at the beginning, the table -/
def Gs : List (Nat × List AV) := [(0, H256.l.map .u32), (1, K256.map .u32)]
@[go_sem] theorem gs0 : lkf Gs 0 = some (H256.l.map .u32) := rfl
@[go_sem] theorem gs1 : lkf Gs 1 = some (K256.map .u32) := rfl
end Go.Lv

namespace Go.Lv
open Go Go.Proofs
set_option maxRecDepth 100000
-- FN 77 livery/keccak.Shake ntmps 34 params #[3, 3, 61]
def c77 : List C := [.o (.mv 6 (.c .nils)),
 .o (.mv 7 (.c (.i 0))),
 .o (.mv 9 (.t 0)),
 .o (.bin 10 .neq 3 (.t 9) (.c (.i 128))),
 .o (.mv 11 (.t 10)),
 .o (.gd 11 true (.mv 12 (.t 0))),
 .o (.gd 11 true (.bin 13 .neq 3 (.t 12) (.c (.i 256)))),
 .o (.pick 14 (.t 11) (.t 13) (.c (.b false))),
 .ite (.t 14) [.o (.mv 6 (.c .nils)),
  .o (.mv 7 (.c (.i 1))),
  .ret]
  [],
 .o (.mv 15 (.t 1)),
 .o (.call 16 (.f 83) [(.t 15)]),
 .o (.mv 8 (.t 16)),
 .o (.mv 17 (.t 8)),
 .o (.bin 18 .neq 31 (.t 17) (.c (.i 0))),
 .ite (.t 18) [.o (.mv 19 (.t 8)),
  .o (.mv 6 (.c .nils)),
  .o (.mv 7 (.t 19)),
  .ret]
  [],
 .o (.mv 20 (.t 0)),
 .o (.bin 21 .eql 3 (.t 20) (.c (.i 128))),
 .ite (.t 21) [.o (.mv 22 (.t 2)),
  .o (.call 23 (.f 84) [(.t 22)]),
  .o (.mv 24 (.t 1)),
  .o (.call 25 (.f 85) [(.t 23), (.t 24)]),
  .o (.ext 26 (.t 25) 0),
  .o (.ext 27 (.t 25) 1),
  .o (.mv 6 (.t 26)),
  .o (.mv 7 (.t 27)),
  .ret]
  [],
 .o (.mv 28 (.t 2)),
 .o (.call 29 (.f 86) [(.t 28)]),
 .o (.mv 30 (.t 1)),
 .o (.call 31 (.f 85) [(.t 29), (.t 30)]),
 .o (.ext 32 (.t 31) 0),
 .o (.ext 33 (.t 31) 1),
 .o (.mv 6 (.t 32)),
 .o (.mv 7 (.t 33)),
 .ret]
theorem cc77 : Tryd.f77.body.map cc = some c77 := by kernel_rfl
theorem rs77 : Tryd.f77.results.toList.map cRS = [.t 6, .t 7] := by kernel_rfl
-- FN 83 livery/keccak.may ntmps 9 params #[3]
def c83 : List C := [.o (.mv 2 (.c (.i 0))),
 .blk 0 [.o (.mv 4 (.t 0)),
  .o (.bin 5 .lss 3 (.t 4) (.c (.i 0))),
  .o (.mv 3 (.t 5)),
  .ite (.t 3) [.o (.mv 2 (.c (.i 1))),
   .ret]
   [.o (.mv 7 (.t 0)),
   .o (.bin 8 .gtr 3 (.t 7) (.c (.i 1048576))),
   .o (.mv 6 (.t 8)),
   .ite (.t 6) [.o (.mv 2 (.c (.i 3))),
    .ret]
    []]],
 .o (.mv 2 (.c (.i 0))),
 .ret]
theorem cc83 : Tryd.f83.body.map cc = some c83 := by kernel_rfl
theorem rs83 : Tryd.f83.results.toList.map cRS = [.t 2] := by kernel_rfl
-- FN 84 livery/keccak.Shake128 ntmps 5 params #[61]
def c84 : List C := [.o (.mv 2 (.c .nilp)),
 .o (.mv 3 (.t 0)),
 .o (.call 4 (.f 90) [(.c (.i 168)), (.t 3)]),
 .o (.mv 2 (.t 4)),
 .ret]
theorem cc84 : Tryd.f84.body.map cc = some c84 := by kernel_rfl
theorem rs84 : Tryd.f84.results.toList.map cRS = [.t 2] := by kernel_rfl
-- FN 85 (*livery/keccak.Xof).Read ntmps 31 params #[125, 3]
def c85 : List C := [.o (.mv 4 (.c .nils)),
 .o (.mv 5 (.c (.i 0))),
 .o (.mv 8 (.t 0)),
 .o (.call 9 (.f 91) [(.t 8)]),
 .ite (.t 9) [.o (.mv 4 (.c .nils)),
  .o (.mv 5 (.c (.i 2))),
  .ret]
  [],
 .o (.mv 10 (.t 1)),
 .o (.call 11 (.f 83) [(.t 10)]),
 .o (.mv 6 (.t 11)),
 .o (.mv 12 (.t 6)),
 .o (.bin 13 .neq 31 (.t 12) (.c (.i 0))),
 .ite (.t 13) [.o (.mv 14 (.t 6)),
  .o (.mv 4 (.c .nils)),
  .o (.mv 5 (.t 14)),
  .ret]
  [],
 .o (.mv 15 (.t 1)),
 .o (.msl 16 24 (.t 15) (.t 15)),
 .o (.mv 7 (.t 16)),
 .o (.mv 17 (.t 0)),
 .o (.nc 18 (.t 17)),
 .o (.fa 19 137 (.t 18) 1),
 .o (.mv 20 (.t 7)),
 .o (.call 21 (.f 92) [(.t 19), (.t 20)]),
 .o (.mv 22 (.t 0)),
 .o (.nc 23 (.t 22)),
 .o (.fa 24 137 (.t 23) 2),
 .o (.ld 25 3 (.t 24)),
 .o (.mv 26 (.t 1)),
 .o (.bin 27 .add 3 (.t 25) (.t 26)),
 .o (.nc 28 (.t 22)),
 .o (.fa 29 137 (.t 28) 2),
 .o (.st 3 (.t 29) (.t 27)),
 .o (.mv 30 (.t 7)),
 .o (.mv 4 (.t 30)),
 .o (.mv 5 (.c (.i 0))),
 .ret]
theorem cc85 : Tryd.f85.body.map cc = some c85 := by kernel_rfl
theorem rs85 : Tryd.f85.results.toList.map cRS = [.t 4, .t 5] := by kernel_rfl
-- FN 86 livery/keccak.Shake256 ntmps 5 params #[61]
def c86 : List C := [.o (.mv 2 (.c .nilp)),
 .o (.mv 3 (.t 0)),
 .o (.call 4 (.f 90) [(.c (.i 136)), (.t 3)]),
 .o (.mv 2 (.t 4)),
 .ret]
theorem cc86 : Tryd.f86.body.map cc = some c86 := by kernel_rfl
theorem rs86 : Tryd.f86.results.toList.map cRS = [.t 2] := by kernel_rfl
-- FN 90 livery/keccak.started ntmps 16 params #[3, 61]
def c90 : List C := [.o (.mv 4 (.c .nilp)),
 .o (.mv 6 (.t 0)),
 .o (.bld 7 135 [(1, (.t 6))]),
 .o (.bld 8 137 [(0, (.c (.b true))), (1, (.t 7))]),
 .o (.bx 9 137 (.t 8)),
 .o (.mv 5 (.t 9)),
 .o (.mv 10 (.t 5)),
 .o (.nc 11 (.t 10)),
 .o (.fa 12 137 (.t 11) 1),
 .o (.mv 13 (.t 1)),
 .o (.call 14 (.f 96) [(.t 12), (.c (.u8 31)), (.t 13)]),
 .o (.mv 15 (.t 5)),
 .o (.mv 4 (.t 15)),
 .ret]
theorem cc90 : Tryd.f90.body.map cc = some c90 := by kernel_rfl
theorem rs90 : Tryd.f90.results.toList.map cRS = [.t 4] := by kernel_rfl
-- FN 91 (*livery/keccak.Xof).none ntmps 12 params #[125]
def c91 : List C := [.o (.mv 2 (.c (.b false))),
 .o (.mv 3 (.t 0)),
 .o (.bin 4 .eql 125 (.t 3) (.c .nilp)),
 .o (.mv 5 (.t 4)),
 .o (.gd 5 false (.mv 6 (.t 0))),
 .o (.gd 5 false (.nc 7 (.t 6))),
 .o (.gd 5 false (.fa 8 137 (.t 7) 0)),
 .o (.gd 5 false (.ld 9 4 (.t 8))),
 .o (.gd 5 false (.un 10 .not (.t 9))),
 .o (.pick 11 (.t 5) (.c (.b true)) (.t 10)),
 .o (.mv 2 (.t 11)),
 .ret]
theorem cc91 : Tryd.f91.body.map cc = some c91 := by kernel_rfl
theorem rs91 : Tryd.f91.results.toList.map cRS = [.t 2] := by kernel_rfl
-- FN 92 (*livery/keccak.sponge).gives ntmps 59 params #[145, 24]
def c92 : List C := [.o (.mv 5 (.t 1)),
 .o (.len 6 24 (.t 5)),
 .o (.mv 7 (.c (.i 0))),
 .blk 0 [.lp [.o (.bin 8 .lss 3 (.t 7) (.t 6)),
   .ite (.t 8) []
    [.ex 0],
   .blk 1 [.o (.mv 9 (.t 7)),
    .o (.mv 4 (.t 9)),
    .dr true 8 [.mv 10 (.t 0), .nc 11 (.t 10), .fa 12 135 (.t 11) 2, .ld 13 3 (.t 12), .mv 14 (.t 0), .nc 15 (.t 14), .fa 16 135 (.t 15) 1, .ld 17 3 (.t 16), .bin 18 .eql 3 (.t 13) (.t 17)],
    .ite (.t 18) [.o (.mv 19 (.t 0)),
     .o (.mv 20 (.t 0)),
     .o (.mv 21 (.t 0)),
     .o (.nc 22 (.t 21)),
     .o (.fa 23 135 (.t 22) 0),
     .o (.ld 24 133 (.t 23)),
     .o (.call 25 (.f 97) [(.t 24)]),
     .o (.nc 26 (.t 19)),
     .o (.fa 27 135 (.t 26) 0),
     .o (.st 133 (.t 27) (.t 25)),
     .o (.nc 28 (.t 20)),
     .o (.fa 29 135 (.t 28) 2),
     .o (.st 3 (.t 29) (.c (.i 0)))]
     [],
    .dr true 20 [.mv 30 (.t 1), .mv 31 (.t 4), .mv 32 (.t 0), .mv 33 (.t 0), .nc 34 (.t 33), .fa 35 135 (.t 34) 2, .ld 36 3 (.t 35), .bin 37 .quo 3 (.t 36) (.c (.i 8)), .nc 38 (.t 32), .fa 39 135 (.t 38) 0, .ia 40 133 (.t 39) (.t 37), .ld 41 55 (.t 40), .mv 42 (.t 0), .nc 43 (.t 42), .fa 44 135 (.t 43) 2, .ld 45 3 (.t 44), .bin 46 .rem 3 (.t 45) (.c (.i 8)), .bin 47 .mul 3 (.c (.i 8)) (.t 46), .bin 48 .shr 55 (.t 41) (.t 47), .cv 49 55 5 (.t 48), .ia 50 24 (.t 30) (.t 31), .st 5 (.t 50) (.t 49)],
    .o (.mv 51 (.t 0)),
    .o (.nc 52 (.t 51)),
    .o (.fa 53 135 (.t 52) 2),
    .o (.ld 54 3 (.t 53)),
    .o (.bin 55 .add 3 (.t 54) (.c (.i 1))),
    .o (.nc 56 (.t 51)),
    .o (.fa 57 135 (.t 56) 2),
    .o (.st 3 (.t 57) (.t 55))],
   .o (.bin 58 .add 3 (.t 7) (.c (.i 1))),
   .o (.mv 7 (.t 58))]]]
theorem cc92 : Tryd.f92.body.map cc = some c92 := by kernel_rfl
theorem rs92 : Tryd.f92.results.toList.map cRS = [] := by kernel_rfl
-- FN 96 (*livery/keccak.sponge).takes ntmps 78 params #[145, 5, 61]
def c96 : List C := [.o (.mv 10 (.t 2)),
 .o (.len 11 61 (.t 10)),
 .o (.mv 12 (.c (.i 0))),
 .blk 0 [.lp [.o (.bin 13 .lss 3 (.t 12) (.t 11)),
   .ite (.t 13) []
    [.ex 0],
   .blk 1 [.o (.ia 14 61 (.t 10) (.t 12)),
    .o (.ld 15 24 (.t 14)),
    .o (.mv 7 (.t 15)),
    .o (.mv 16 (.t 7)),
    .o (.len 17 24 (.t 16)),
    .o (.mv 18 (.c (.i 0))),
    .blk 2 [.lp [.o (.bin 19 .lss 3 (.t 18) (.t 17)),
      .ite (.t 19) []
       [.ex 2],
      .blk 3 [.o (.ia 20 24 (.t 16) (.t 18)),
       .o (.ld 21 5 (.t 20)),
       .o (.mv 9 (.t 21)),
       .o (.mv 22 (.t 0)),
       .o (.mv 23 (.t 9)),
       .o (.call 24 (.f 99) [(.t 22), (.t 23)]),
       .o (.mv 25 (.t 0)),
       .o (.nc 26 (.t 25)),
       .o (.fa 27 135 (.t 26) 2),
       .o (.ld 28 3 (.t 27)),
       .o (.bin 29 .add 3 (.t 28) (.c (.i 1))),
       .o (.nc 30 (.t 25)),
       .o (.fa 31 135 (.t 30) 2),
       .o (.st 3 (.t 31) (.t 29)),
       .dr true 8 [.mv 32 (.t 0), .nc 33 (.t 32), .fa 34 135 (.t 33) 2, .ld 35 3 (.t 34), .mv 36 (.t 0), .nc 37 (.t 36), .fa 38 135 (.t 37) 1, .ld 39 3 (.t 38), .bin 40 .eql 3 (.t 35) (.t 39)],
       .ite (.t 40) [.o (.mv 41 (.t 0)),
        .o (.mv 42 (.t 0)),
        .o (.mv 43 (.t 0)),
        .o (.nc 44 (.t 43)),
        .o (.fa 45 135 (.t 44) 0),
        .o (.ld 46 133 (.t 45)),
        .o (.call 47 (.f 97) [(.t 46)]),
        .o (.nc 48 (.t 41)),
        .o (.fa 49 135 (.t 48) 0),
        .o (.st 133 (.t 49) (.t 47)),
        .o (.nc 50 (.t 42)),
        .o (.fa 51 135 (.t 50) 2),
        .o (.st 3 (.t 51) (.c (.i 0)))]
        []],
      .o (.bin 52 .add 3 (.t 18) (.c (.i 1))),
      .o (.mv 18 (.t 52))]]],
   .o (.bin 53 .add 3 (.t 12) (.c (.i 1))),
   .o (.mv 12 (.t 53))]],
 .o (.mv 54 (.t 0)),
 .o (.mv 55 (.t 1)),
 .o (.call 56 (.f 99) [(.t 54), (.t 55)]),
 .o (.mv 57 (.t 0)),
 .o (.mv 58 (.t 0)),
 .o (.nc 59 (.t 58)),
 .o (.fa 60 135 (.t 59) 1),
 .o (.ld 61 3 (.t 60)),
 .o (.bin 62 .sub 3 (.t 61) (.c (.i 1))),
 .o (.nc 63 (.t 57)),
 .o (.fa 64 135 (.t 63) 2),
 .o (.st 3 (.t 64) (.t 62)),
 .o (.mv 65 (.t 0)),
 .o (.call 66 (.f 99) [(.t 65), (.c (.u8 128))]),
 .o (.mv 67 (.t 0)),
 .o (.mv 68 (.t 0)),
 .o (.mv 69 (.t 0)),
 .o (.nc 70 (.t 69)),
 .o (.fa 71 135 (.t 70) 0),
 .o (.ld 72 133 (.t 71)),
 .o (.call 73 (.f 97) [(.t 72)]),
 .o (.nc 74 (.t 67)),
 .o (.fa 75 135 (.t 74) 0),
 .o (.st 133 (.t 75) (.t 73)),
 .o (.nc 76 (.t 68)),
 .o (.fa 77 135 (.t 76) 2),
 .o (.st 3 (.t 77) (.c (.i 0)))]
theorem cc96 : Tryd.f96.body.map cc = some c96 := by kernel_rfl
theorem rs96 : Tryd.f96.results.toList.map cRS = [] := by kernel_rfl
-- FN 97 livery/keccak.Permute ntmps 20 params #[133]
def c97 : List C := [.o (.bx 1 133 (.t 0)),
 .o (.al 2 133),
 .o (.call 6 (.f 100) []),
 .o (.al 3 149),
 .o (.st 149 (.t 3) (.t 6)),
 .o (.call 7 (.f 101) []),
 .o (.mv 8 (.c (.i 0))),
 .blk 0 [.lp [.o (.bin 9 .lss 3 (.t 8) (.c (.i 24))),
   .ite (.t 9) []
    [.ex 0],
   .blk 1 [.o (.ixv 10 151 (.t 7) (.t 8)),
    .o (.mv 5 (.t 10)),
    .o (.ld 11 133 (.t 1)),
    .o (.call 12 (.f 102) [(.t 11), (.t 3)]),
    .o (.st 133 (.t 1) (.t 12)),
    .o (.ia 13 133 (.t 1) (.c (.i 0))),
    .o (.ld 14 55 (.t 13)),
    .o (.mv 15 (.t 5)),
    .o (.bin 16 .xor 55 (.t 14) (.t 15)),
    .o (.ia 17 133 (.t 1) (.c (.i 0))),
    .o (.st 55 (.t 17) (.t 16))],
   .o (.bin 18 .add 3 (.t 8) (.c (.i 1))),
   .o (.mv 8 (.t 18))]],
 .o (.ld 19 133 (.t 1)),
 .o (.st 133 (.t 2) (.t 19)),
 .ret]
theorem cc97 : Tryd.f97.body.map cc = some c97 := by kernel_rfl
theorem rs97 : Tryd.f97.results.toList.map cRS = [.c 2 133] := by kernel_rfl
-- FN 99 (*livery/keccak.sponge).put ntmps 27 params #[145, 5]
def c99 : List C := [.dr true 22 [.mv 4 (.t 0), .mv 5 (.t 0), .nc 6 (.t 5), .fa 7 135 (.t 6) 2, .ld 8 3 (.t 7), .bin 9 .quo 3 (.t 8) (.c (.i 8)), .nc 10 (.t 4), .fa 11 135 (.t 10) 0, .ia 12 133 (.t 11) (.t 9), .ld 13 55 (.t 12), .mv 14 (.t 1), .cv 15 5 55 (.t 14), .mv 16 (.t 0), .nc 17 (.t 16), .fa 18 135 (.t 17) 2, .ld 19 3 (.t 18), .bin 20 .rem 3 (.t 19) (.c (.i 8)), .bin 21 .mul 3 (.c (.i 8)) (.t 20), .bin 22 .shl 55 (.t 15) (.t 21), .bin 23 .xor 55 (.t 13) (.t 22), .nc 24 (.t 4), .fa 25 135 (.t 24) 0, .ia 26 133 (.t 25) (.t 9), .st 55 (.t 26) (.t 23)]]
theorem cc99 : Tryd.f99.body.map cc = some c99 := by kernel_rfl
theorem rs99 : Tryd.f99.results.toList.map cRS = [] := by kernel_rfl
-- FN 100 livery/keccak.offsets ntmps 2 params #[]
def c100 : List C := [.o (.al 0 149),
 .o (.bld 1 149 [(0, (.c (.i 0))), (1, (.c (.i 1))), (2, (.c (.i 62))), (3, (.c (.i 28))), (4, (.c (.i 27))), (5, (.c (.i 36))), (6, (.c (.i 44))), (7, (.c (.i 6))), (8, (.c (.i 55))), (9, (.c (.i 20))), (10, (.c (.i 3))), (11, (.c (.i 10))), (12, (.c (.i 43))), (13, (.c (.i 25))), (14, (.c (.i 39))), (15, (.c (.i 41))), (16, (.c (.i 45))), (17, (.c (.i 15))), (18, (.c (.i 21))), (19, (.c (.i 8))), (20, (.c (.i 18))), (21, (.c (.i 2))), (22, (.c (.i 61))), (23, (.c (.i 56))), (24, (.c (.i 14)))]),
 .o (.st 149 (.t 0) (.t 1)),
 .ret]
theorem cc100 : Tryd.f100.body.map cc = some c100 := by kernel_rfl
theorem rs100 : Tryd.f100.results.toList.map cRS = [.c 0 149] := by kernel_rfl
-- FN 101 livery/keccak.constants ntmps 2 params #[]
def c101 : List C := [.o (.al 0 151),
 .o (.bld 1 151 [(0, (.c (.u64 1))), (1, (.c (.u64 32898))), (2, (.c (.u64 9223372036854808714))), (3, (.c (.u64 9223372039002292224))), (4, (.c (.u64 32907))), (5, (.c (.u64 2147483649))), (6, (.c (.u64 9223372039002292353))), (7, (.c (.u64 9223372036854808585))), (8, (.c (.u64 138))), (9, (.c (.u64 136))), (10, (.c (.u64 2147516425))), (11, (.c (.u64 2147483658))), (12, (.c (.u64 2147516555))), (13, (.c (.u64 9223372036854775947))), (14, (.c (.u64 9223372036854808713))), (15, (.c (.u64 9223372036854808579))), (16, (.c (.u64 9223372036854808578))), (17, (.c (.u64 9223372036854775936))), (18, (.c (.u64 32778))), (19, (.c (.u64 9223372039002259466))), (20, (.c (.u64 9223372039002292353))), (21, (.c (.u64 9223372036854808704))), (22, (.c (.u64 2147483649))), (23, (.c (.u64 9223372039002292232)))]),
 .o (.st 151 (.t 0) (.t 1)),
 .ret]
theorem cc101 : Tryd.f101.body.map cc = some c101 := by kernel_rfl
theorem rs101 : Tryd.f101.results.toList.map cRS = [.c 0 151] := by kernel_rfl
-- FN 102 livery/keccak.mixed ntmps 123 params #[133, 154]
def c102 : List C := [.o (.bx 2 133 (.t 0)),
 .o (.al 4 133),
 .o (.al 5 158),
 .o (.al 6 158),
 .o (.mv 15 (.c (.i 0))),
 .blk 0 [.lp [.o (.bin 16 .lss 3 (.t 15) (.c (.i 5))),
   .ite (.t 16) []
    [.ex 0],
   .blk 1 [.o (.mv 17 (.t 15)),
    .o (.mv 7 (.t 17)),
    .dr true 24 [.mv 18 (.t 7), .mv 19 (.t 7), .ia 20 133 (.t 2) (.t 19), .ld 21 55 (.t 20), .mv 22 (.t 7), .bin 23 .add 3 (.t 22) (.c (.i 5)), .ia 24 133 (.t 2) (.t 23), .ld 25 55 (.t 24), .bin 26 .xor 55 (.t 21) (.t 25), .mv 27 (.t 7), .bin 28 .add 3 (.t 27) (.c (.i 10)), .ia 29 133 (.t 2) (.t 28), .ld 30 55 (.t 29), .bin 31 .xor 55 (.t 26) (.t 30), .mv 32 (.t 7), .bin 33 .add 3 (.t 32) (.c (.i 15)), .ia 34 133 (.t 2) (.t 33), .ld 35 55 (.t 34), .bin 36 .xor 55 (.t 31) (.t 35), .mv 37 (.t 7), .bin 38 .add 3 (.t 37) (.c (.i 20)), .ia 39 133 (.t 2) (.t 38), .ld 40 55 (.t 39), .bin 41 .xor 55 (.t 36) (.t 40), .ia 42 158 (.t 5) (.t 18), .st 55 (.t 42) (.t 41)]],
   .o (.bin 43 .add 3 (.t 15) (.c (.i 1))),
   .o (.mv 15 (.t 43))]],
 .o (.mv 44 (.c (.i 0))),
 .blk 2 [.lp [.o (.bin 45 .lss 3 (.t 44) (.c (.i 5))),
   .ite (.t 45) []
    [.ex 2],
   .blk 3 [.o (.mv 46 (.t 44)),
    .o (.mv 8 (.t 46)),
    .dr true 13 [.mv 47 (.t 8), .mv 48 (.t 8), .bin 49 .add 3 (.t 48) (.c (.i 4)), .bin 50 .rem 3 (.t 49) (.c (.i 5)), .ia 51 158 (.t 5) (.t 50), .ld 52 55 (.t 51), .mv 53 (.t 8), .bin 54 .add 3 (.t 53) (.c (.i 1)), .bin 55 .rem 3 (.t 54) (.c (.i 5)), .ia 56 158 (.t 5) (.t 55), .ld 57 55 (.t 56), .call 58 (.f 105) [(.t 57), (.c (.i 1))], .bin 59 .xor 55 (.t 52) (.t 58), .ia 60 158 (.t 6) (.t 47), .st 55 (.t 60) (.t 59)]],
   .o (.bin 61 .add 3 (.t 44) (.c (.i 1))),
   .o (.mv 44 (.t 61))]],
 .o (.al 9 133),
 .o (.mv 62 (.c (.i 0))),
 .blk 4 [.lp [.o (.bin 63 .lss 3 (.t 62) (.c (.i 25))),
   .ite (.t 63) []
    [.ex 4],
   .blk 5 [.o (.mv 64 (.t 62)),
    .o (.mv 10 (.t 64)),
    .o (.mv 65 (.t 10)),
    .o (.bin 66 .rem 3 (.t 65) (.c (.i 5))),
    .o (.mv 67 (.t 10)),
    .o (.bin 68 .quo 3 (.t 67) (.c (.i 5))),
    .o (.mv 11 (.t 66)),
    .o (.mv 12 (.t 68)),
    .dr true 22 [.mv 69 (.t 11), .bin 70 .mul 3 (.c (.i 2)) (.t 69), .mv 71 (.t 12), .bin 72 .mul 3 (.c (.i 3)) (.t 71), .bin 73 .add 3 (.t 70) (.t 72), .bin 74 .rem 3 (.t 73) (.c (.i 5)), .bin 75 .mul 3 (.c (.i 5)) (.t 74), .mv 76 (.t 12), .bin 77 .add 3 (.t 75) (.t 76), .mv 78 (.t 10), .ia 79 133 (.t 2) (.t 78), .ld 80 55 (.t 79), .mv 81 (.t 11), .ia 82 158 (.t 6) (.t 81), .ld 83 55 (.t 82), .bin 84 .xor 55 (.t 80) (.t 83), .mv 85 (.t 1), .mv 86 (.t 10), .nc 87 (.t 85), .ia 88 149 (.t 87) (.t 86), .ld 89 3 (.t 88), .call 90 (.f 105) [(.t 84), (.t 89)], .ia 91 133 (.t 9) (.t 77), .st 55 (.t 91) (.t 90)]],
   .o (.bin 92 .add 3 (.t 62) (.c (.i 1))),
   .o (.mv 62 (.t 92))]],
 .o (.mv 93 (.c (.i 0))),
 .blk 6 [.lp [.o (.bin 94 .lss 3 (.t 93) (.c (.i 25))),
   .ite (.t 94) []
    [.ex 6],
   .blk 7 [.o (.mv 95 (.t 93)),
    .o (.mv 13 (.t 95)),
    .o (.mv 96 (.t 13)),
    .o (.bin 97 .quo 3 (.t 96) (.c (.i 5))),
    .o (.bin 98 .mul 3 (.t 97) (.c (.i 5))),
    .o (.mv 14 (.t 98)),
    .dr true 21 [.mv 99 (.t 13), .mv 100 (.t 13), .ia 101 133 (.t 9) (.t 100), .ld 102 55 (.t 101), .mv 103 (.t 14), .mv 104 (.t 13), .bin 105 .add 3 (.t 104) (.c (.i 1)), .bin 106 .rem 3 (.t 105) (.c (.i 5)), .bin 107 .add 3 (.t 103) (.t 106), .ia 108 133 (.t 9) (.t 107), .ld 109 55 (.t 108), .un 110 .xor (.t 109), .mv 111 (.t 14), .mv 112 (.t 13), .bin 113 .add 3 (.t 112) (.c (.i 2)), .bin 114 .rem 3 (.t 113) (.c (.i 5)), .bin 115 .add 3 (.t 111) (.t 114), .ia 116 133 (.t 9) (.t 115), .ld 117 55 (.t 116), .bin 118 .and 55 (.t 110) (.t 117), .bin 119 .xor 55 (.t 102) (.t 118), .ia 120 133 (.t 2) (.t 99), .st 55 (.t 120) (.t 119)]],
   .o (.bin 121 .add 3 (.t 93) (.c (.i 1))),
   .o (.mv 93 (.t 121))]],
 .o (.ld 122 133 (.t 2)),
 .o (.st 133 (.t 4) (.t 122)),
 .ret]
theorem cc102 : Tryd.f102.body.map cc = some c102 := by kernel_rfl
theorem rs102 : Tryd.f102.results.toList.map cRS = [.c 4 133] := by kernel_rfl
end Go.Lv

namespace Go.Lv
open Go Go.Proofs
set_option maxRecDepth 100000
-- FN 3 livery/liverylaw07.LmotsOwn ntmps 122 params #[26, 24]
def c3 : List C := [.o (.bx 2 26 (.t 0)),
 .o (.mv 4 (.c (.b false))),
 .o (.call 14 (.f 6) []),
 .o (.un 15 .not (.t 14)),
 .o (.mv 16 (.t 15)),
 .o (.gd 16 false (.mv 17 (.t 1))),
 .o (.gd 16 false (.len 18 24 (.t 17))),
 .o (.gd 16 false (.bin 19 .gtr 3 (.t 18) (.c (.i 3000)))),
 .o (.pick 20 (.t 16) (.c (.b true)) (.t 19)),
 .ite (.t 20) [.o (.call 21 (.f 6) []),
  .o (.mv 4 (.t 21)),
  .ret]
  [],
 .o (.fa 22 26 (.t 2) 0),
 .o (.ld 23 22 (.t 22)),
 .o (.call 24 (.f 7) [(.t 23)]),
 .o (.al 5 29),
 .o (.st 29 (.t 5) (.t 24)),
 .o (.ld 26 29 (.t 5)),
 .o (.fa 27 26 (.t 2) 1),
 .o (.ld 28 23 (.t 27)),
 .o (.fa 29 26 (.t 2) 2),
 .o (.ld 30 22 (.t 29)),
 .o (.fa 31 26 (.t 2) 3),
 .o (.ld 32 24 (.t 31)),
 .o (.mv 33 (.t 1)),
 .o (.call 34 (.f 8) [(.t 26), (.t 28), (.t 30), (.t 32), (.t 33)]),
 .o (.mv 25 (.t 34)),
 .o (.ext 35 (.t 25) 0),
 .o (.ext 36 (.t 25) 1),
 .o (.mv 6 (.t 35)),
 .o (.mv 7 (.t 36)),
 .o (.mv 37 (.t 7)),
 .o (.bin 38 .neq 31 (.t 37) (.c (.i 0))),
 .ite (.t 38) [.o (.ld 39 29 (.t 5)),
  .o (.call 40 (.f 9) [(.t 39)]),
  .o (.un 41 .not (.t 40)),
  .o (.mv 42 (.t 41)),
  .o (.gd 42 false (.fa 43 26 (.t 2) 3)),
  .o (.gd 42 false (.ld 44 24 (.t 43))),
  .o (.gd 42 false (.len 45 24 (.t 44))),
  .o (.gd 42 false (.fa 46 29 (.t 5) 2)),
  .o (.gd 42 false (.ld 47 3 (.t 46))),
  .o (.gd 42 false (.bin 48 .neq 3 (.t 45) (.t 47))),
  .o (.pick 49 (.t 42) (.c (.b true)) (.t 48)),
  .o (.mv 4 (.t 49)),
  .ret]
  [],
 .dr false 17 [.ld 51 29 (.t 5), .fa 52 26 (.t 2) 1, .ld 53 23 (.t 52), .fa 54 26 (.t 2) 2, .ld 55 22 (.t 54), .fa 56 26 (.t 2) 3, .ld 57 24 (.t 56), .bsl 58 61 1 [(0, (.t 57))], .call 59 (.f 10) [(.t 58)], .mv 60 (.t 1), .bsl 61 61 1 [(0, (.t 60))], .call 62 (.f 10) [(.t 61)], .call 63 (.f 8) [(.t 51), (.t 53), (.t 55), (.t 59), (.t 62)], .mv 50 (.t 63), .ext 64 (.t 50) 0, .ext 65 (.t 50) 1, .mv 8 (.t 64), .mv 9 (.t 65)],
 .o (.ld 67 29 (.t 5)),
 .o (.fa 68 26 (.t 2) 1),
 .o (.ld 69 23 (.t 68)),
 .o (.fa 70 26 (.t 2) 2),
 .o (.ld 71 22 (.t 70)),
 .o (.fa 72 26 (.t 2) 3),
 .o (.ld 73 24 (.t 72)),
 .o (.call 74 (.f 11) [(.t 67), (.t 69), (.t 71), (.t 73)]),
 .o (.mv 66 (.t 74)),
 .o (.ext 75 (.t 66) 0),
 .o (.ext 76 (.t 66) 1),
 .o (.mv 10 (.t 75)),
 .o (.mv 11 (.t 76)),
 .o (.ld 78 29 (.t 5)),
 .o (.fa 79 26 (.t 2) 1),
 .o (.ld 80 23 (.t 79)),
 .o (.fa 81 26 (.t 2) 2),
 .o (.ld 82 22 (.t 81)),
 .o (.mv 83 (.t 1)),
 .o (.mv 84 (.t 6)),
 .o (.call 85 (.f 12) [(.t 78), (.t 80), (.t 82), (.t 83), (.t 84)]),
 .o (.mv 77 (.t 85)),
 .o (.ext 86 (.t 77) 0),
 .o (.ext 87 (.t 77) 1),
 .o (.mv 12 (.t 86)),
 .o (.mv 13 (.t 87)),
 .o (.mv 88 (.t 9)),
 .o (.bin 89 .eql 31 (.t 88) (.c (.i 0))),
 .o (.mv 90 (.t 89)),
 .o (.gd 90 true (.mv 91 (.t 11))),
 .o (.gd 90 true (.bin 92 .eql 31 (.t 91) (.c (.i 0)))),
 .o (.pick 93 (.t 90) (.t 92) (.c (.b false))),
 .o (.mv 94 (.t 93)),
 .o (.gd 94 true (.mv 95 (.t 13))),
 .o (.gd 94 true (.bin 96 .eql 31 (.t 95) (.c (.i 0)))),
 .o (.pick 97 (.t 94) (.t 96) (.c (.b false))),
 .o (.mv 98 (.t 97)),
 .o (.gd 98 true (.mv 99 (.t 12))),
 .o (.gd 98 true (.mv 100 (.t 10))),
 .o (.gd 98 true (.call 101 (.f 13) [(.t 99), (.t 100)])),
 .o (.pick 102 (.t 98) (.t 101) (.c (.b false))),
 .o (.mv 103 (.t 102)),
 .o (.gd 103 true (.mv 104 (.t 10))),
 .o (.gd 103 true (.len 105 24 (.t 104))),
 .o (.gd 103 true (.fa 106 29 (.t 5) 2)),
 .o (.gd 103 true (.ld 107 3 (.t 106))),
 .o (.gd 103 true (.bin 108 .eql 3 (.t 105) (.t 107))),
 .o (.pick 109 (.t 103) (.t 108) (.c (.b false))),
 .o (.mv 110 (.t 109)),
 .o (.gd 110 true (.mv 111 (.t 6))),
 .o (.gd 110 true (.len 112 24 (.t 111))),
 .o (.gd 110 true (.ld 113 29 (.t 5))),
 .o (.gd 110 true (.call 114 (.f 14) [(.t 113)])),
 .o (.gd 110 true (.bin 115 .eql 3 (.t 112) (.t 114))),
 .o (.pick 116 (.t 110) (.t 115) (.c (.b false))),
 .o (.mv 117 (.t 116)),
 .o (.gd 117 true (.mv 118 (.t 6))),
 .o (.gd 117 true (.mv 119 (.t 8))),
 .o (.gd 117 true (.call 120 (.f 13) [(.t 118), (.t 119)])),
 .o (.pick 121 (.t 117) (.t 120) (.c (.b false))),
 .o (.mv 4 (.t 121)),
 .ret]
theorem cc3 : Tryd.f3.body.map cc = some c3 := by kernel_rfl
theorem rs3 : Tryd.f3.results.toList.map cRS = [.t 4] := by kernel_rfl
-- FN 6 livery/liverylaw07.live ntmps 46 params #[]
def c6 : List C := [.o (.mv 0 (.c (.b false))),
 .o (.call 6 (.f 27) [(.c (.u32 2))]),
 .o (.mv 5 (.t 6)),
 .o (.ext 7 (.t 5) 0),
 .o (.ext 8 (.t 5) 1),
 .o (.al 1 29),
 .o (.st 29 (.t 1) (.t 7)),
 .o (.mv 2 (.t 8)),
 .dr true 7 [.ld 10 29 (.t 1), .msl 11 24 (.c (.i 32)) (.c (.i 32)), .call 12 (.f 28) [(.t 10), (.t 11)], .mv 9 (.t 12), .ext 13 (.t 9) 0, .ext 14 (.t 9) 1, .mv 3 (.t 13), .mv 4 (.t 14)],
 .o (.mv 15 (.t 3)),
 .o (.len 16 60 (.t 15)),
 .o (.bin 17 .eql 3 (.t 16) (.c (.i 133))),
 .o (.mv 18 (.t 17)),
 .o (.gd 18 true (.mv 19 (.t 3))),
 .o (.gd 18 true (.ia 20 60 (.t 19) (.c (.i 127)))),
 .o (.gd 18 true (.ld 21 3 (.t 20))),
 .o (.gd 18 true (.bin 22 .eql 3 (.t 21) (.c (.i 0)))),
 .o (.pick 23 (.t 18) (.t 22) (.c (.b false))),
 .o (.mv 24 (.t 23)),
 .o (.gd 24 true (.mv 25 (.t 3))),
 .o (.gd 24 true (.ia 26 60 (.t 25) (.c (.i 128)))),
 .o (.gd 24 true (.ld 27 3 (.t 26))),
 .o (.gd 24 true (.bin 28 .eql 3 (.t 27) (.c (.i 1)))),
 .o (.pick 29 (.t 24) (.t 28) (.c (.b false))),
 .o (.mv 30 (.t 29)),
 .o (.gd 30 true (.mv 31 (.t 3))),
 .o (.gd 30 true (.ia 32 60 (.t 31) (.c (.i 129)))),
 .o (.gd 30 true (.ld 33 3 (.t 32))),
 .o (.gd 30 true (.bin 34 .eql 3 (.t 33) (.c (.i 2)))),
 .o (.pick 35 (.t 30) (.t 34) (.c (.b false))),
 .o (.mv 36 (.t 35)),
 .o (.gd 36 true (.mv 37 (.t 3))),
 .o (.gd 36 true (.ia 38 60 (.t 37) (.c (.i 132)))),
 .o (.gd 36 true (.ld 39 3 (.t 38))),
 .o (.gd 36 true (.bin 40 .eql 3 (.t 39) (.c (.i 0)))),
 .o (.pick 41 (.t 36) (.t 40) (.c (.b false))),
 .o (.mv 42 (.t 41)),
 .o (.gd 42 true (.mv 43 (.t 4))),
 .o (.gd 42 true (.bin 44 .eql 31 (.t 43) (.c (.i 0)))),
 .o (.pick 45 (.t 42) (.t 44) (.c (.b false))),
 .o (.mv 0 (.t 45)),
 .ret]
theorem cc6 : Tryd.f6.body.map cc = some c6 := by kernel_rfl
theorem rs6 : Tryd.f6.results.toList.map cRS = [.t 0] := by kernel_rfl
-- FN 7 livery/liverylaw07.set ntmps 15 params #[22]
def c7 : List C := [.o (.al 2 29),
 .o (.mv 6 (.t 0)),
 .o (.call 7 (.f 27) [(.t 6)]),
 .o (.mv 5 (.t 7)),
 .o (.ext 8 (.t 5) 0),
 .o (.ext 9 (.t 5) 1),
 .o (.al 3 29),
 .o (.st 29 (.t 3) (.t 8)),
 .o (.mv 4 (.t 9)),
 .o (.mv 10 (.t 4)),
 .o (.bin 11 .neq 31 (.t 10) (.c (.i 0))),
 .ite (.t 11) [.o (.mv 12 (.t 0)),
  .o (.bld 13 29 [(0, (.t 12)), (2, (.c (.i 32))), (3, (.c (.i 4))), (4, (.c (.i 67))), (5, (.c (.i 4)))]),
  .o (.st 29 (.t 2) (.t 13)),
  .ret]
  [],
 .o (.ld 14 29 (.t 3)),
 .o (.st 29 (.t 2) (.t 14)),
 .ret]
theorem cc7 : Tryd.f7.body.map cc = some c7 := by kernel_rfl
theorem rs7 : Tryd.f7.results.toList.map cRS = [.c 2 29] := by kernel_rfl
end Go.Lv

namespace Go.Lv
open Go Go.Proofs
set_option maxRecDepth 100000
-- FN 4 livery/liverylaw08.LmsRight ntmps 80 params #[43, 22, 24]
def c4 : List C := [.o (.bx 3 43 (.t 0)),
 .o (.mv 6 (.c (.b false))),
 .o (.call 13 (.f 15) []),
 .o (.un 14 .not (.t 13)),
 .o (.mv 15 (.t 14)),
 .o (.gd 15 false (.ld 16 43 (.t 3))),
 .o (.gd 15 false (.call 17 (.f 16) [(.t 16)])),
 .o (.gd 15 false (.un 18 .not (.t 17))),
 .o (.pick 19 (.t 15) (.c (.b true)) (.t 18)),
 .o (.mv 20 (.t 19)),
 .o (.gd 20 false (.mv 21 (.t 2))),
 .o (.gd 20 false (.len 22 24 (.t 21))),
 .o (.gd 20 false (.bin 23 .gtr 3 (.t 22) (.c (.i 2000)))),
 .o (.pick 24 (.t 20) (.c (.b true)) (.t 23)),
 .ite (.t 24) [.o (.call 25 (.f 15) []),
  .o (.mv 6 (.t 25)),
  .ret]
  [],
 .o (.fa 27 43 (.t 3) 0),
 .o (.ld 28 41 (.t 27)),
 .o (.fa 29 43 (.t 3) 1),
 .o (.ld 30 29 (.t 29)),
 .o (.fa 31 43 (.t 3) 2),
 .o (.ld 32 23 (.t 31)),
 .o (.fa 33 43 (.t 3) 3),
 .o (.ld 34 24 (.t 33)),
 .o (.mv 35 (.t 1)),
 .o (.mv 36 (.t 2)),
 .o (.call 37 (.f 17) [(.t 28), (.t 30), (.t 32), (.t 34), (.t 35), (.t 36)]),
 .o (.mv 26 (.t 37)),
 .o (.ext 38 (.t 26) 0),
 .o (.ext 39 (.t 26) 1),
 .o (.mv 7 (.t 38)),
 .o (.mv 8 (.t 39)),
 .o (.mv 40 (.t 8)),
 .o (.bin 41 .neq 31 (.t 40) (.c (.i 0))),
 .ite (.t 41) [.o (.mv 42 (.t 7)),
  .o (.len 43 24 (.t 42)),
  .o (.bin 44 .eql 3 (.t 43) (.c (.i 0))),
  .o (.mv 6 (.t 44)),
  .ret]
  [],
 .o (.fa 46 43 (.t 3) 0),
 .o (.ld 47 41 (.t 46)),
 .o (.fa 48 43 (.t 3) 1),
 .o (.ld 49 29 (.t 48)),
 .o (.fa 50 43 (.t 3) 2),
 .o (.ld 51 23 (.t 50)),
 .o (.fa 52 43 (.t 3) 3),
 .o (.ld 53 24 (.t 52)),
 .o (.call 54 (.f 18) [(.t 47), (.t 49), (.t 51), (.t 53)]),
 .o (.mv 45 (.t 54)),
 .o (.ext 55 (.t 45) 0),
 .o (.ext 56 (.t 45) 1),
 .o (.mv 9 (.t 55)),
 .o (.mv 10 (.t 56)),
 .o (.mv 58 (.t 7)),
 .o (.call 59 (.f 19) [(.t 58)]),
 .o (.mv 57 (.t 59)),
 .o (.ext 60 (.t 57) 0),
 .o (.ext 61 (.t 57) 1),
 .o (.mv 11 (.t 60)),
 .o (.mv 12 (.t 61)),
 .o (.mv 62 (.t 10)),
 .o (.bin 63 .eql 31 (.t 62) (.c (.i 0))),
 .o (.mv 64 (.t 63)),
 .o (.gd 64 true (.mv 65 (.t 12))),
 .o (.gd 64 true (.bin 66 .eql 31 (.t 65) (.c (.i 0)))),
 .o (.pick 67 (.t 64) (.t 66) (.c (.b false))),
 .o (.mv 68 (.t 67)),
 .o (.gd 68 true (.mv 69 (.t 11))),
 .o (.gd 68 true (.mv 70 (.t 1))),
 .o (.gd 68 true (.bin 71 .eql 22 (.t 69) (.t 70))),
 .o (.pick 72 (.t 68) (.t 71) (.c (.b false))),
 .o (.mv 73 (.t 72)),
 .o (.gd 73 true (.mv 74 (.t 9))),
 .o (.gd 73 true (.mv 75 (.t 2))),
 .o (.gd 73 true (.mv 76 (.t 7))),
 .o (.gd 73 true (.call 77 (.f 20) [(.t 74), (.t 75), (.t 76)])),
 .o (.gd 73 true (.bin 78 .eql 31 (.t 77) (.c (.i 0)))),
 .o (.pick 79 (.t 73) (.t 78) (.c (.b false))),
 .o (.mv 6 (.t 79)),
 .ret]
theorem cc4 : Tryd.f4.body.map cc = some c4 := by kernel_rfl
theorem rs4 : Tryd.f4.results.toList.map cRS = [.t 6] := by kernel_rfl
-- FN 5 livery/liverylaw08.LmsNone ntmps 55 params #[]
def c5 : List C := [.o (.mv 0 (.c (.b false))),
 .o (.bld 7 57 []),
 .o (.bx 8 57 (.t 7)),
 .o (.bsl 9 58 2 [(0, (.c .nilp)), (1, (.t 8))]),
 .o (.len 10 58 (.t 9)),
 .o (.mv 11 (.c (.i 0))),
 .blk 0 [.lp [.o (.bin 12 .lss 3 (.t 11) (.t 10)),
   .ite (.t 12) []
    [.ex 0],
   .blk 1 [.o (.ia 13 58 (.t 9) (.t 11)),
    .o (.ld 14 51 (.t 13)),
    .o (.mv 2 (.t 14)),
    .o (.mv 16 (.t 2)),
    .o (.call 17 (.f 21) [(.t 16)]),
    .o (.mv 15 (.t 17)),
    .o (.ext 18 (.t 15) 0),
    .o (.ext 19 (.t 15) 1),
    .o (.mv 3 (.t 18)),
    .o (.mv 4 (.t 19)),
    .o (.mv 21 (.t 2)),
    .o (.call 22 (.f 23) [(.t 21)]),
    .o (.call 23 (.f 22) [(.t 22), (.c (.i 9))]),
    .o (.mv 20 (.t 23)),
    .o (.ext 24 (.t 20) 0),
    .o (.ext 25 (.t 20) 1),
    .o (.mv 5 (.t 24)),
    .o (.mv 6 (.t 25)),
    .o (.mv 26 (.t 2)),
    .o (.call 27 (.f 24) [(.t 26)]),
    .o (.bin 28 .neq 31 (.t 27) (.c (.i 2))),
    .o (.mv 29 (.t 28)),
    .o (.gd 29 false (.mv 30 (.t 2))),
    .o (.gd 29 false (.call 31 (.f 25) [(.t 30)])),
    .o (.gd 29 false (.bin 32 .neq 55 (.t 31) (.c (.u64 0)))),
    .o (.pick 33 (.t 29) (.c (.b true)) (.t 32)),
    .o (.mv 34 (.t 33)),
    .o (.gd 34 false (.mv 35 (.t 2))),
    .o (.gd 34 false (.call 36 (.f 26) [(.t 35)])),
    .o (.gd 34 false (.bin 37 .neq 3 (.t 36) (.c (.i 0)))),
    .o (.pick 38 (.t 34) (.c (.b true)) (.t 37)),
    .o (.mv 39 (.t 38)),
    .o (.gd 39 false (.mv 40 (.t 5))),
    .o (.gd 39 false (.len 41 60 (.t 40))),
    .o (.gd 39 false (.bin 42 .neq 3 (.t 41) (.c (.i 0)))),
    .o (.pick 43 (.t 39) (.c (.b true)) (.t 42)),
    .o (.mv 44 (.t 43)),
    .o (.gd 44 false (.mv 45 (.t 3))),
    .o (.gd 44 false (.len 46 24 (.t 45))),
    .o (.gd 44 false (.bin 47 .neq 3 (.t 46) (.c (.i 0)))),
    .o (.pick 48 (.t 44) (.c (.b true)) (.t 47)),
    .o (.mv 49 (.t 48)),
    .o (.gd 49 false (.mv 50 (.t 4))),
    .o (.gd 49 false (.bin 51 .neq 31 (.t 50) (.c (.i 2)))),
    .o (.pick 52 (.t 49) (.c (.b true)) (.t 51)),
    .ite (.t 52) [.o (.mv 0 (.c (.b false))),
     .ret]
     []],
   .o (.bin 53 .add 3 (.t 11) (.c (.i 1))),
   .o (.mv 11 (.t 53))]],
 .o (.call 54 (.f 15) []),
 .o (.mv 0 (.t 54)),
 .ret]
theorem cc5 : Tryd.f5.body.map cc = some c5 := by kernel_rfl
theorem rs5 : Tryd.f5.results.toList.map cRS = [.t 0] := by kernel_rfl
-- FN 15 livery/liverylaw08.live ntmps 74 params #[]
def c15 : List C := [.o (.mv 0 (.c (.b false))),
 .o (.call 8 (.f 41) []),
 .o (.al 1 43),
 .o (.st 43 (.t 1) (.t 8)),
 .o (.fa 10 43 (.t 1) 0),
 .o (.ld 11 41 (.t 10)),
 .o (.fa 12 43 (.t 1) 1),
 .o (.ld 13 29 (.t 12)),
 .o (.fa 14 43 (.t 1) 2),
 .o (.ld 15 23 (.t 14)),
 .o (.fa 16 43 (.t 1) 3),
 .o (.ld 17 24 (.t 16)),
 .o (.call 18 (.f 18) [(.t 11), (.t 13), (.t 15), (.t 17)]),
 .o (.mv 9 (.t 18)),
 .o (.ext 19 (.t 9) 0),
 .o (.ext 20 (.t 9) 1),
 .o (.mv 2 (.t 19)),
 .o (.mv 3 (.t 20)),
 .o (.fa 22 43 (.t 1) 0),
 .o (.ld 23 41 (.t 22)),
 .o (.fa 24 43 (.t 1) 1),
 .o (.ld 25 29 (.t 24)),
 .o (.fa 26 43 (.t 1) 2),
 .o (.ld 27 23 (.t 26)),
 .o (.fa 28 43 (.t 1) 3),
 .o (.ld 29 24 (.t 28)),
 .o (.bsl 30 24 1 [(0, (.c (.u8 109)))]),
 .o (.cv 31 24 24 (.t 30)),
 .o (.call 32 (.f 17) [(.t 23), (.t 25), (.t 27), (.t 29), (.c (.u32 1)), (.t 31)]),
 .o (.mv 21 (.t 32)),
 .o (.ext 33 (.t 21) 0),
 .o (.ext 34 (.t 21) 1),
 .o (.mv 4 (.t 33)),
 .o (.mv 5 (.t 34)),
 .o (.mv 36 (.t 4)),
 .o (.call 37 (.f 19) [(.t 36)]),
 .o (.mv 35 (.t 37)),
 .o (.ext 38 (.t 35) 0),
 .o (.ext 39 (.t 35) 1),
 .o (.mv 6 (.t 38)),
 .o (.mv 7 (.t 39)),
 .o (.mv 40 (.t 3)),
 .o (.bin 41 .eql 31 (.t 40) (.c (.i 0))),
 .o (.mv 42 (.t 41)),
 .o (.gd 42 true (.mv 43 (.t 5))),
 .o (.gd 42 true (.bin 44 .eql 31 (.t 43) (.c (.i 0)))),
 .o (.pick 45 (.t 42) (.t 44) (.c (.b false))),
 .o (.mv 46 (.t 45)),
 .o (.gd 46 true (.mv 47 (.t 7))),
 .o (.gd 46 true (.bin 48 .eql 31 (.t 47) (.c (.i 0)))),
 .o (.pick 49 (.t 46) (.t 48) (.c (.b false))),
 .o (.mv 50 (.t 49)),
 .o (.gd 50 true (.mv 51 (.t 6))),
 .o (.gd 50 true (.bin 52 .eql 22 (.t 51) (.c (.u32 1)))),
 .o (.pick 53 (.t 50) (.t 52) (.c (.b false))),
 .o (.mv 54 (.t 53)),
 .o (.gd 54 true (.mv 55 (.t 2))),
 .o (.gd 54 true (.bsl 56 24 1 [(0, (.c (.u8 109)))])),
 .o (.gd 54 true (.cv 57 24 24 (.t 56))),
 .o (.gd 54 true (.mv 58 (.t 4))),
 .o (.gd 54 true (.call 59 (.f 20) [(.t 55), (.t 57), (.t 58)])),
 .o (.gd 54 true (.bin 60 .eql 31 (.t 59) (.c (.i 0)))),
 .o (.pick 61 (.t 54) (.t 60) (.c (.b false))),
 .o (.mv 62 (.t 61)),
 .o (.gd 62 true (.mv 63 (.t 2))),
 .o (.gd 62 true (.bsl 64 24 1 [(0, (.c (.u8 109)))])),
 .o (.gd 62 true (.cv 65 24 24 (.t 64))),
 .o (.gd 62 true (.call 66 (.f 20) [(.t 63), (.t 65), (.c .nils)])),
 .o (.gd 62 true (.bin 67 .eql 31 (.t 66) (.c (.i 70)))),
 .o (.pick 68 (.t 62) (.t 67) (.c (.b false))),
 .o (.mv 69 (.t 68)),
 .o (.gd 69 true (.mv 70 (.t 4))),
 .o (.gd 69 true (.call 71 (.f 20) [(.c .nils), (.c .nils), (.t 70)])),
 .o (.gd 69 true (.bin 72 .eql 31 (.t 71) (.c (.i 81)))),
 .o (.pick 73 (.t 69) (.t 72) (.c (.b false))),
 .o (.mv 0 (.t 73)),
 .ret]
theorem cc15 : Tryd.f15.body.map cc = some c15 := by kernel_rfl
theorem rs15 : Tryd.f15.results.toList.map cRS = [.t 0] := by kernel_rfl
-- FN 16 livery/liverylaw08.few ntmps 37 params #[43]
def c16 : List C := [.o (.bx 1 43 (.t 0)),
 .o (.mv 2 (.c (.b false))),
 .o (.fa 3 43 (.t 1) 3),
 .o (.ld 4 24 (.t 3)),
 .o (.len 5 24 (.t 4)),
 .o (.bin 6 .gtr 3 (.t 5) (.c (.i 100))),
 .o (.mv 7 (.t 6)),
 .o (.gd 7 false (.fa 8 43 (.t 1) 0)),
 .o (.gd 7 false (.ld 9 41 (.t 8))),
 .o (.gd 7 false (.fa 10 43 (.t 1) 1)),
 .o (.gd 7 false (.ld 11 29 (.t 10))),
 .o (.gd 7 false (.call 12 (.f 42) [(.t 9), (.t 11)])),
 .o (.gd 7 false (.un 13 .not (.t 12))),
 .o (.pick 14 (.t 7) (.c (.b true)) (.t 13)),
 .ite (.t 14) [.o (.fa 15 43 (.t 1) 3),
  .o (.ld 16 24 (.t 15)),
  .o (.len 17 24 (.t 16)),
  .o (.bin 18 .leq 3 (.t 17) (.c (.i 100))),
  .o (.mv 2 (.t 18)),
  .ret]
  [],
 .dr true 15 [.fa 19 43 (.t 1) 0, .fa 20 41 (.t 19) 3, .ld 21 3 (.t 20), .bin 22 .leq 3 (.t 21) (.c (.i 4)), .mv 23 (.t 22), .gd 23 true (.fa 24 43 (.t 1) 1), .gd 23 true (.fa 25 29 (.t 24) 4), .gd 23 true (.ld 26 3 (.t 25)), .gd 23 true (.fa 27 43 (.t 1) 1), .gd 23 true (.fa 28 29 (.t 27) 3), .gd 23 true (.ld 29 3 (.t 28)), .gd 23 true (.bin 30 .shl 3 (.t 26) (.t 29)), .gd 23 true (.fa 31 43 (.t 1) 0), .gd 23 true (.fa 32 41 (.t 31) 3), .gd 23 true (.ld 33 3 (.t 32)), .gd 23 true (.bin 34 .shl 3 (.t 30) (.t 33)), .gd 23 true (.bin 35 .leq 3 (.t 34) (.c (.i 7000))), .pick 36 (.t 23) (.t 35) (.c (.b false)), .mv 2 (.t 36)],
 .ret]
theorem cc16 : Tryd.f16.body.map cc = some c16 := by kernel_rfl
theorem rs16 : Tryd.f16.results.toList.map cRS = [.t 2] := by kernel_rfl
-- FN 22 livery/liverylaw08.told ntmps 31 params #[65, 3]
def c22 : List C := [.o (.bx 3 3 (.t 1)),
 .o (.mv 4 (.c .nils)),
 .o (.mv 5 (.c .nils)),
 .o (.al 6 60),
 .o (.al 7 61),
 .o (.mv 10 (.t 0)),
 .o (.bin 11 .eql 65 (.t 10) (.c .nilfn)),
 .ite (.t 11) [.o (.mv 4 (.c .nils)),
  .o (.mv 5 (.c .nils)),
  .ret]
  [],
 .o (.mv 12 (.t 0)),
 .blk 0 [.rf (.t 12) [13, 14] [.o (.mv 8 (.t 13)),
   .o (.mv 9 (.t 14))]
   [.blk 1 [.o (.ld 15 61 (.t 7)),
    .o (.len 16 61 (.t 15)),
    .o (.ld 17 3 (.t 3)),
    .o (.bin 18 .geq 3 (.t 16) (.t 17)),
    .ite (.t 18) [.ex 0]
     [],
    .o (.ld 19 60 (.t 6)),
    .o (.mv 20 (.t 8)),
    .o (.bsl 21 60 1 [(0, (.t 20))]),
    .o (.app 22 60 60 (.t 19) (.t 21)),
    .o (.st 60 (.t 6) (.t 22)),
    .dr true 5 [.ld 23 61 (.t 7), .mv 24 (.t 9), .bsl 25 61 1 [(0, (.t 24))], .call 26 (.f 10) [(.t 25)], .bsl 27 61 1 [(0, (.t 26))], .app 28 61 61 (.t 23) (.t 27), .st 61 (.t 7) (.t 28)]]]],
 .dr true 3 [.ld 29 60 (.t 6), .ld 30 61 (.t 7), .mv 4 (.t 29), .mv 5 (.t 30)],
 .ret]
theorem cc22 : Tryd.f22.body.map cc = some c22 := by kernel_rfl
theorem rs22 : Tryd.f22.results.toList.map cRS = [.t 4, .t 5] := by kernel_rfl
-- FN 41 livery/liverylaw08.small ntmps 17 params #[]
def c41 : List C := [.o (.al 0 43),
 .o (.call 6 (.f 66) [(.c (.u32 4026531857))]),
 .o (.mv 5 (.t 6)),
 .o (.ext 7 (.t 5) 0),
 .o (.ext 8 (.t 5) 1),
 .o (.al 1 41),
 .o (.st 41 (.t 1) (.t 7)),
 .o (.mv 2 (.t 8)),
 .o (.call 10 (.f 27) [(.c (.u32 6))]),
 .o (.mv 9 (.t 10)),
 .o (.ext 11 (.t 9) 0),
 .o (.ext 12 (.t 9) 1),
 .o (.al 3 29),
 .o (.st 29 (.t 3) (.t 11)),
 .o (.mv 4 (.t 12)),
 .dr true 3 [.ld 13 41 (.t 1), .ld 14 29 (.t 3), .msl 15 24 (.c (.i 24)) (.c (.i 24)), .bld 16 43 [(0, (.t 13)), (1, (.t 14)), (3, (.t 15))], .st 43 (.t 0) (.t 16)],
 .ret]
theorem cc41 : Tryd.f41.body.map cc = some c41 := by kernel_rfl
theorem rs41 : Tryd.f41.results.toList.map cRS = [.c 0 43] := by kernel_rfl
end Go.Lv

namespace Go.Lv
open Go Go.Proofs
set_option maxRecDepth 100000
-- FN 10 livery/liveryref01.Join ntmps 18 params #[61]
def c10 : List C := [.o (.mv 2 (.c .nils)),
 .o (.bsl 6 24 0 []),
 .o (.mv 3 (.t 6)),
 .o (.mv 7 (.t 0)),
 .o (.len 8 61 (.t 7)),
 .o (.mv 9 (.c (.i 0))),
 .blk 0 [.lp [.o (.bin 10 .lss 3 (.t 9) (.t 8)),
   .ite (.t 10) []
    [.ex 0],
   .blk 1 [.o (.ia 11 61 (.t 7) (.t 9)),
    .o (.ld 12 24 (.t 11)),
    .o (.mv 5 (.t 12)),
    .o (.mv 13 (.t 3)),
    .o (.mv 14 (.t 5)),
    .o (.app 15 24 24 (.t 13) (.t 14)),
    .o (.mv 3 (.t 15))],
   .o (.bin 16 .add 3 (.t 9) (.c (.i 1))),
   .o (.mv 9 (.t 16))]],
 .o (.mv 17 (.t 3)),
 .o (.mv 2 (.t 17)),
 .ret]
theorem cc10 : Tryd.f10.body.map cc = some c10 := by kernel_rfl
theorem rs10 : Tryd.f10.results.toList.map cRS = [.t 2] := by kernel_rfl
-- FN 13 livery/liveryref01.Equal ntmps 10 params #[24, 24]
def c13 : List C := [.o (.mv 4 (.c (.b false))),
 .o (.mv 5 (.t 0)),
 .o (.cv 6 24 9 (.t 5)),
 .o (.mv 7 (.t 1)),
 .o (.cv 8 24 9 (.t 7)),
 .o (.bin 9 .eql 9 (.t 6) (.t 8)),
 .o (.mv 4 (.t 9)),
 .ret]
theorem cc13 : Tryd.f13.body.map cc = some c13 := by kernel_rfl
theorem rs13 : Tryd.f13.results.toList.map cRS = [.t 4] := by kernel_rfl
end Go.Lv

namespace Go.Lv
open Go Go.Proofs
set_option maxRecDepth 100000
-- FN 9 livery/liveryref06.MayOts ntmps 18 params #[29]
def c9 : List C := [.o (.bx 1 29 (.t 0)),
 .o (.mv 2 (.c (.b false))),
 .o (.fa 6 29 (.t 1) 0),
 .o (.ld 7 22 (.t 6)),
 .o (.call 8 (.f 27) [(.t 7)]),
 .o (.mv 5 (.t 8)),
 .o (.ext 9 (.t 5) 0),
 .o (.ext 10 (.t 5) 1),
 .o (.al 3 29),
 .o (.st 29 (.t 3) (.t 9)),
 .o (.mv 4 (.t 10)),
 .o (.mv 11 (.t 4)),
 .o (.bin 12 .eql 31 (.t 11) (.c (.i 0))),
 .o (.mv 13 (.t 12)),
 .o (.gd 13 true (.ld 14 29 (.t 3))),
 .o (.gd 13 true (.ld 15 29 (.t 1))),
 .o (.gd 13 true (.bin 16 .eql 29 (.t 14) (.t 15))),
 .o (.pick 17 (.t 13) (.t 16) (.c (.b false))),
 .o (.mv 2 (.t 17)),
 .ret]
theorem cc9 : Tryd.f9.body.map cc = some c9 := by kernel_rfl
theorem rs9 : Tryd.f9.results.toList.map cRS = [.t 2] := by kernel_rfl
-- FN 14 livery/liveryref06.OtsLen ntmps 13 params #[29]
def c14 : List C := [.o (.bx 1 29 (.t 0)),
 .o (.mv 2 (.c (.i 0))),
 .o (.ld 3 29 (.t 1)),
 .o (.call 4 (.f 9) [(.t 3)]),
 .o (.un 5 .not (.t 4)),
 .ite (.t 5) [.o (.mv 2 (.c (.i 0))),
  .ret]
  [],
 .o (.fa 6 29 (.t 1) 2),
 .o (.ld 7 3 (.t 6)),
 .o (.fa 8 29 (.t 1) 4),
 .o (.ld 9 3 (.t 8)),
 .o (.bin 10 .add 3 (.t 9) (.c (.i 1))),
 .o (.bin 11 .mul 3 (.t 7) (.t 10)),
 .o (.bin 12 .add 3 (.c (.i 4)) (.t 11)),
 .o (.mv 2 (.t 12)),
 .ret]
theorem cc14 : Tryd.f14.body.map cc = some c14 := by kernel_rfl
theorem rs14 : Tryd.f14.results.toList.map cRS = [.t 2] := by kernel_rfl
-- FN 27 livery/liveryref06.Ots ntmps 52 params #[22]
def c27 : List C := [.o (.al 2 29),
 .o (.mv 3 (.c (.i 0))),
 .o (.mv 9 (.t 0)),
 .o (.bin 10 .lss 22 (.t 9) (.c (.u32 1))),
 .o (.mv 11 (.t 10)),
 .o (.gd 11 false (.mv 12 (.t 0))),
 .o (.gd 11 false (.bin 13 .gtr 22 (.t 12) (.c (.u32 16)))),
 .o (.pick 14 (.t 11) (.c (.b true)) (.t 13)),
 .ite (.t 14) [.o (.bld 15 29 []),
  .o (.st 29 (.t 2) (.t 15)),
  .o (.mv 3 (.c (.i 60))),
  .ret]
  [],
 .o (.mv 16 (.t 0)),
 .o (.bin 17 .sub 22 (.t 16) (.c (.u32 1))),
 .o (.cv 18 22 3 (.t 17)),
 .o (.bin 19 .quo 3 (.t 18) (.c (.i 4))),
 .o (.mv 4 (.t 19)),
 .o (.mv 20 (.t 4)),
 .o (.call 21 (.f 56) [(.t 20)]),
 .o (.mv 22 (.t 0)),
 .o (.bin 23 .sub 22 (.t 22) (.c (.u32 1))),
 .o (.cv 24 22 3 (.t 23)),
 .o (.bin 25 .rem 3 (.t 24) (.c (.i 4))),
 .o (.call 26 (.f 57) [(.t 25)]),
 .o (.mv 5 (.t 21)),
 .o (.mv 6 (.t 26)),
 .o (.mv 27 (.t 5)),
 .o (.bin 28 .mul 3 (.c (.i 8)) (.t 27)),
 .o (.mv 29 (.t 6)),
 .o (.bin 30 .quo 3 (.t 28) (.t 29)),
 .o (.mv 7 (.t 30)),
 .o (.mv 31 (.t 6)),
 .o (.call 32 (.f 57) [(.t 31)]),
 .o (.bin 33 .sub 3 (.t 32) (.c (.i 1))),
 .o (.mv 34 (.t 7)),
 .o (.bin 35 .mul 3 (.t 33) (.t 34)),
 .o (.call 36 (.f 59) [(.t 35)]),
 .o (.mv 37 (.t 6)),
 .o (.call 38 (.f 58) [(.t 36), (.t 37)]),
 .o (.mv 8 (.t 38)),
 .o (.mv 39 (.t 0)),
 .o (.mv 40 (.t 4)),
 .o (.bin 41 .geq 3 (.t 40) (.c (.i 2))),
 .o (.mv 42 (.t 5)),
 .o (.mv 43 (.t 6)),
 .o (.mv 44 (.t 7)),
 .o (.mv 45 (.t 8)),
 .o (.bin 46 .add 3 (.t 44) (.t 45)),
 .o (.mv 47 (.t 8)),
 .o (.mv 48 (.t 6)),
 .o (.bin 49 .mul 3 (.t 47) (.t 48)),
 .o (.bin 50 .sub 3 (.c (.i 16)) (.t 49)),
 .o (.bld 51 29 [(0, (.t 39)), (1, (.t 41)), (2, (.t 42)), (3, (.t 43)), (4, (.t 46)), (5, (.t 50))]),
 .o (.st 29 (.t 2) (.t 51)),
 .o (.mv 3 (.c (.i 0))),
 .ret]
theorem cc27 : Tryd.f27.body.map cc = some c27 := by kernel_rfl
theorem rs27 : Tryd.f27.results.toList.map cRS = [.c 2 29, .t 3] := by kernel_rfl
-- FN 42 livery/liveryref06.Fit ntmps 25 params #[41, 29]
def c42 : List C := [.o (.bx 2 41 (.t 0)),
 .o (.bx 3 29 (.t 1)),
 .o (.mv 4 (.c (.b false))),
 .o (.ld 5 41 (.t 2)),
 .o (.call 6 (.f 67) [(.t 5)]),
 .o (.mv 7 (.t 6)),
 .o (.gd 7 true (.ld 8 29 (.t 3))),
 .o (.gd 7 true (.call 9 (.f 9) [(.t 8)])),
 .o (.pick 10 (.t 7) (.t 9) (.c (.b false))),
 .o (.mv 11 (.t 10)),
 .o (.gd 11 true (.fa 12 41 (.t 2) 1)),
 .o (.gd 11 true (.ld 13 4 (.t 12))),
 .o (.gd 11 true (.fa 14 29 (.t 3) 1)),
 .o (.gd 11 true (.ld 15 4 (.t 14))),
 .o (.gd 11 true (.bin 16 .eql 4 (.t 13) (.t 15))),
 .o (.pick 17 (.t 11) (.t 16) (.c (.b false))),
 .o (.mv 18 (.t 17)),
 .o (.gd 18 true (.fa 19 41 (.t 2) 2)),
 .o (.gd 18 true (.ld 20 3 (.t 19))),
 .o (.gd 18 true (.fa 21 29 (.t 3) 2)),
 .o (.gd 18 true (.ld 22 3 (.t 21))),
 .o (.gd 18 true (.bin 23 .eql 3 (.t 20) (.t 22))),
 .o (.pick 24 (.t 18) (.t 23) (.c (.b false))),
 .o (.mv 4 (.t 24)),
 .ret]
theorem cc42 : Tryd.f42.body.map cc = some c42 := by kernel_rfl
theorem rs42 : Tryd.f42.results.toList.map cRS = [.t 4] := by kernel_rfl
-- FN 56 livery/liveryref06.bytes ntmps 6 params #[3]
def c56 : List C := [.o (.mv 2 (.c (.i 0))),
 .o (.mv 3 (.t 0)),
 .o (.bin 4 .rem 3 (.t 3) (.c (.i 2))),
 .o (.bin 5 .eql 3 (.t 4) (.c (.i 1))),
 .ite (.t 5) [.o (.mv 2 (.c (.i 24))),
  .ret]
  [],
 .o (.mv 2 (.c (.i 32))),
 .ret]
theorem cc56 : Tryd.f56.body.map cc = some c56 := by kernel_rfl
theorem rs56 : Tryd.f56.results.toList.map cRS = [.t 2] := by kernel_rfl
-- FN 57 livery/liveryref06.power ntmps 11 params #[3]
def c57 : List C := [.o (.mv 2 (.c (.i 0))),
 .o (.mv 3 (.c (.i 1))),
 .o (.mv 4 (.t 0)),
 .o (.mv 5 (.c (.i 0))),
 .blk 0 [.lp [.o (.bin 6 .lss 3 (.t 5) (.t 4)),
   .ite (.t 6) []
    [.ex 0],
   .blk 1 [.o (.mv 7 (.t 3)),
    .o (.bin 8 .mul 3 (.t 7) (.c (.i 2))),
    .o (.mv 3 (.t 8))],
   .o (.bin 9 .add 3 (.t 5) (.c (.i 1))),
   .o (.mv 5 (.t 9))]],
 .o (.mv 10 (.t 3)),
 .o (.mv 2 (.t 10)),
 .ret]
theorem cc57 : Tryd.f57.body.map cc = some c57 := by kernel_rfl
theorem rs57 : Tryd.f57.results.toList.map cRS = [.t 2] := by kernel_rfl
-- FN 58 livery/liveryref06.up ntmps 11 params #[3, 3]
def c58 : List C := [.o (.mv 4 (.c (.i 0))),
 .o (.mv 5 (.t 0)),
 .o (.mv 6 (.t 1)),
 .o (.bin 7 .add 3 (.t 5) (.t 6)),
 .o (.bin 8 .sub 3 (.t 7) (.c (.i 1))),
 .o (.mv 9 (.t 1)),
 .o (.bin 10 .quo 3 (.t 8) (.t 9)),
 .o (.mv 4 (.t 10)),
 .ret]
theorem cc58 : Tryd.f58.body.map cc = some c58 := by kernel_rfl
theorem rs58 : Tryd.f58.results.toList.map cRS = [.t 4] := by kernel_rfl
-- FN 59 livery/liveryref06.bits ntmps 11 params #[3]
def c59 : List C := [.o (.mv 2 (.c (.i 0))),
 .o (.mv 3 (.c (.i 0))),
 .blk 0 [.lp [.o (.mv 4 (.t 3)),
   .o (.call 5 (.f 57) [(.t 4)]),
   .o (.mv 6 (.t 0)),
   .o (.bin 7 .leq 3 (.t 5) (.t 6)),
   .ite (.t 7) []
    [.ex 0],
   .blk 1 [.o (.mv 8 (.t 3)),
    .o (.bin 9 .add 3 (.t 8) (.c (.i 1))),
    .o (.mv 3 (.t 9))]]],
 .o (.mv 10 (.t 3)),
 .o (.mv 2 (.t 10)),
 .ret]
theorem cc59 : Tryd.f59.body.map cc = some c59 := by kernel_rfl
theorem rs59 : Tryd.f59.results.toList.map cRS = [.t 2] := by kernel_rfl
-- FN 66 livery/liveryref06.Lms ntmps 39 params #[22]
def c66 : List C := [.o (.al 2 41),
 .o (.mv 3 (.c (.i 0))),
 .o (.mv 8 (.t 0)),
 .o (.call 9 (.f 80) [(.t 8), (.c (.u32 4026531840))]),
 .o (.mv 7 (.t 9)),
 .o (.ext 10 (.t 7) 0),
 .o (.ext 11 (.t 7) 1),
 .o (.ext 12 (.t 7) 2),
 .o (.mv 4 (.t 10)),
 .o (.mv 5 (.t 11)),
 .o (.mv 6 (.t 12)),
 .o (.mv 13 (.t 0)),
 .o (.bin 14 .geq 22 (.t 13) (.c (.u32 5))),
 .o (.mv 15 (.t 14)),
 .o (.gd 15 true (.mv 16 (.t 0))),
 .o (.gd 15 true (.bin 17 .leq 22 (.t 16) (.c (.u32 24)))),
 .o (.pick 18 (.t 15) (.t 17) (.c (.b false))),
 .ite (.t 18) [.o (.mv 19 (.t 0)),
  .o (.bin 20 .sub 22 (.t 19) (.c (.u32 5))),
  .o (.cv 21 22 3 (.t 20)),
  .o (.bin 22 .quo 3 (.t 21) (.c (.i 5))),
  .o (.mv 23 (.t 0)),
  .o (.bin 24 .sub 22 (.t 23) (.c (.u32 5))),
  .o (.cv 25 22 3 (.t 24)),
  .o (.bin 26 .rem 3 (.t 25) (.c (.i 5))),
  .o (.bin 27 .add 3 (.t 26) (.c (.i 1))),
  .o (.bin 28 .mul 3 (.c (.i 5)) (.t 27)),
  .o (.mv 4 (.t 22)),
  .o (.mv 5 (.t 28)),
  .o (.mv 6 (.c (.b true)))]
  [],
 .o (.mv 29 (.t 6)),
 .o (.un 30 .not (.t 29)),
 .ite (.t 30) [.o (.bld 31 41 []),
  .o (.st 41 (.t 2) (.t 31)),
  .o (.mv 3 (.c (.i 60))),
  .ret]
  [],
 .o (.mv 32 (.t 0)),
 .o (.mv 33 (.t 4)),
 .o (.bin 34 .geq 3 (.t 33) (.c (.i 2))),
 .o (.mv 35 (.t 4)),
 .o (.call 36 (.f 56) [(.t 35)]),
 .o (.mv 37 (.t 5)),
 .o (.bld 38 41 [(0, (.t 32)), (1, (.t 34)), (2, (.t 36)), (3, (.t 37))]),
 .o (.st 41 (.t 2) (.t 38)),
 .o (.mv 3 (.c (.i 0))),
 .ret]
theorem cc66 : Tryd.f66.body.map cc = some c66 := by kernel_rfl
theorem rs66 : Tryd.f66.results.toList.map cRS = [.c 2 41, .t 3] := by kernel_rfl
-- FN 67 livery/liveryref06.MayLms ntmps 18 params #[41]
def c67 : List C := [.o (.bx 1 41 (.t 0)),
 .o (.mv 2 (.c (.b false))),
 .o (.fa 6 41 (.t 1) 0),
 .o (.ld 7 22 (.t 6)),
 .o (.call 8 (.f 66) [(.t 7)]),
 .o (.mv 5 (.t 8)),
 .o (.ext 9 (.t 5) 0),
 .o (.ext 10 (.t 5) 1),
 .o (.al 3 41),
 .o (.st 41 (.t 3) (.t 9)),
 .o (.mv 4 (.t 10)),
 .o (.mv 11 (.t 4)),
 .o (.bin 12 .eql 31 (.t 11) (.c (.i 0))),
 .o (.mv 13 (.t 12)),
 .o (.gd 13 true (.ld 14 41 (.t 3))),
 .o (.gd 13 true (.ld 15 41 (.t 1))),
 .o (.gd 13 true (.bin 16 .eql 41 (.t 14) (.t 15))),
 .o (.pick 17 (.t 13) (.t 16) (.c (.b false))),
 .o (.mv 2 (.t 17)),
 .ret]
theorem cc67 : Tryd.f67.body.map cc = some c67 := by kernel_rfl
theorem rs67 : Tryd.f67.results.toList.map cRS = [.t 2] := by kernel_rfl
-- FN 80 livery/liveryref06.own ntmps 34 params #[22, 22]
def c80 : List C := [.o (.mv 4 (.c (.i 0))),
 .o (.mv 5 (.c (.i 0))),
 .o (.mv 6 (.c (.b false))),
 .o (.mv 8 (.t 0)),
 .o (.mv 9 (.t 1)),
 .o (.bin 10 .lss 22 (.t 8) (.t 9)),
 .o (.mv 11 (.t 10)),
 .o (.gd 11 false (.mv 12 (.t 0))),
 .o (.gd 11 false (.mv 13 (.t 1))),
 .o (.gd 11 false (.bin 14 .add 22 (.t 13) (.c (.u32 63)))),
 .o (.gd 11 false (.bin 15 .gtr 22 (.t 12) (.t 14))),
 .o (.pick 16 (.t 11) (.c (.b true)) (.t 15)),
 .ite (.t 16) [.o (.mv 4 (.c (.i 0))),
  .o (.mv 5 (.c (.i 0))),
  .o (.mv 6 (.c (.b false))),
  .ret]
  [],
 .o (.mv 17 (.t 0)),
 .o (.mv 18 (.t 1)),
 .o (.bin 19 .sub 22 (.t 17) (.t 18)),
 .o (.cv 20 22 3 (.t 19)),
 .o (.bin 21 .rem 3 (.t 20) (.c (.i 16))),
 .o (.mv 7 (.t 21)),
 .o (.mv 22 (.t 0)),
 .o (.mv 23 (.t 1)),
 .o (.bin 24 .sub 22 (.t 22) (.t 23)),
 .o (.cv 25 22 3 (.t 24)),
 .o (.bin 26 .quo 3 (.t 25) (.c (.i 16))),
 .o (.mv 27 (.t 7)),
 .o (.mv 28 (.t 7)),
 .o (.bin 29 .geq 3 (.t 28) (.c (.i 1))),
 .o (.mv 30 (.t 29)),
 .o (.gd 30 true (.mv 31 (.t 7))),
 .o (.gd 30 true (.bin 32 .leq 3 (.t 31) (.c (.i 4)))),
 .o (.pick 33 (.t 30) (.t 32) (.c (.b false))),
 .o (.mv 4 (.t 26)),
 .o (.mv 5 (.t 27)),
 .o (.mv 6 (.t 33)),
 .ret]
theorem cc80 : Tryd.f80.body.map cc = some c80 := by kernel_rfl
theorem rs80 : Tryd.f80.results.toList.map cRS = [.t 4, .t 5, .t 6] := by kernel_rfl
end Go.Lv

namespace Go.Lv
open Go Go.Proofs
set_option maxRecDepth 100000
-- FN 8 livery/lmots.Sign ntmps 59 params #[29, 23, 22, 24, 24]
def c8 : List C := [.o (.bx 5 29 (.t 0)),
 .o (.bx 6 23 (.t 1)),
 .o (.mv 10 (.c .nils)),
 .o (.mv 11 (.c (.i 0))),
 .o (.ld 18 29 (.t 5)),
 .o (.mv 19 (.t 3)),
 .o (.call 20 (.f 29) [(.t 18), (.t 19)]),
 .o (.mv 12 (.t 20)),
 .o (.mv 21 (.t 12)),
 .o (.bin 22 .neq 31 (.t 21) (.c (.i 0))),
 .ite (.t 22) [.o (.mv 23 (.t 12)),
  .o (.mv 10 (.c .nils)),
  .o (.mv 11 (.t 23)),
  .ret]
  [],
 .o (.ld 24 29 (.t 5)),
 .o (.ld 25 23 (.t 6)),
 .o (.mv 26 (.t 2)),
 .o (.call 27 (.f 30) [(.t 24), (.t 25), (.t 26)]),
 .o (.al 13 76),
 .o (.st 76 (.t 13) (.t 27)),
 .o (.ld 28 76 (.t 13)),
 .o (.mv 29 (.t 3)),
 .o (.call 30 (.f 31) [(.t 28), (.c (.i 65533)), (.t 29)]),
 .o (.mv 14 (.t 30)),
 .o (.fa 31 29 (.t 5) 0),
 .o (.ld 32 22 (.t 31)),
 .o (.call 33 (.f 33) [(.t 32)]),
 .o (.mv 34 (.t 14)),
 .o (.bsl 35 61 2 [(0, (.t 33)), (1, (.t 34))]),
 .o (.call 36 (.f 32) [(.t 35)]),
 .o (.mv 15 (.t 36)),
 .o (.ld 37 76 (.t 13)),
 .o (.mv 38 (.t 14)),
 .o (.mv 39 (.t 4)),
 .o (.call 40 (.f 34) [(.t 37), (.t 38), (.t 39)]),
 .o (.len 41 60 (.t 40)),
 .o (.mv 42 (.c (.i 0))),
 .blk 0 [.lp [.o (.bin 43 .lss 3 (.t 42) (.t 41)),
   .ite (.t 43) []
    [.ex 0],
   .blk 1 [.o (.mv 44 (.t 42)),
    .o (.ia 45 60 (.t 40) (.t 42)),
    .o (.ld 46 3 (.t 45)),
    .o (.mv 16 (.t 44)),
    .o (.mv 17 (.t 46)),
    .dr true 9 [.mv 47 (.t 15), .ld 48 76 (.t 13), .mv 49 (.t 16), .mv 50 (.t 17), .ld 51 76 (.t 13), .mv 52 (.t 16), .mv 53 (.t 3), .call 54 (.f 31) [(.t 51), (.t 52), (.t 53)], .call 55 (.f 35) [(.t 48), (.t 49), (.c (.i 0)), (.t 50), (.t 54)], .app 56 24 24 (.t 47) (.t 55), .mv 15 (.t 56)]],
   .o (.bin 57 .add 3 (.t 42) (.c (.i 1))),
   .o (.mv 42 (.t 57))]],
 .o (.mv 58 (.t 15)),
 .o (.mv 10 (.t 58)),
 .o (.mv 11 (.c (.i 0))),
 .ret]
theorem cc8 : Tryd.f8.body.map cc = some c8 := by kernel_rfl
theorem rs8 : Tryd.f8.results.toList.map cRS = [.t 10, .t 11] := by kernel_rfl
-- FN 11 livery/lmots.Public ntmps 44 params #[29, 23, 22, 24]
def c11 : List C := [.o (.bx 4 29 (.t 0)),
 .o (.bx 5 23 (.t 1)),
 .o (.mv 8 (.c .nils)),
 .o (.mv 9 (.c (.i 0))),
 .o (.ld 14 29 (.t 4)),
 .o (.mv 15 (.t 3)),
 .o (.call 16 (.f 29) [(.t 14), (.t 15)]),
 .o (.mv 10 (.t 16)),
 .o (.mv 17 (.t 10)),
 .o (.bin 18 .neq 31 (.t 17) (.c (.i 0))),
 .ite (.t 18) [.o (.mv 19 (.t 10)),
  .o (.mv 8 (.c .nils)),
  .o (.mv 9 (.t 19)),
  .ret]
  [],
 .o (.ld 20 29 (.t 4)),
 .o (.ld 21 23 (.t 5)),
 .o (.mv 22 (.t 2)),
 .o (.call 23 (.f 30) [(.t 20), (.t 21), (.t 22)]),
 .o (.al 11 76),
 .o (.st 76 (.t 11) (.t 23)),
 .o (.mv 12 (.c .nils)),
 .o (.fa 24 29 (.t 4) 4),
 .o (.ld 25 3 (.t 24)),
 .o (.mv 26 (.c (.i 0))),
 .blk 0 [.lp [.o (.bin 27 .lss 3 (.t 26) (.t 25)),
   .ite (.t 27) []
    [.ex 0],
   .blk 1 [.o (.mv 28 (.t 26)),
    .o (.mv 13 (.t 28)),
    .dr true 10 [.mv 29 (.t 12), .ld 30 76 (.t 11), .mv 31 (.t 13), .ld 32 29 (.t 4), .call 33 (.f 36) [(.t 32)], .ld 34 76 (.t 11), .mv 35 (.t 13), .mv 36 (.t 3), .call 37 (.f 31) [(.t 34), (.t 35), (.t 36)], .call 38 (.f 35) [(.t 30), (.t 31), (.c (.i 0)), (.t 33), (.t 37)], .app 39 24 24 (.t 29) (.t 38), .mv 12 (.t 39)]],
   .o (.bin 40 .add 3 (.t 26) (.c (.i 1))),
   .o (.mv 26 (.t 40))]],
 .o (.ld 41 76 (.t 11)),
 .o (.mv 42 (.t 12)),
 .o (.call 43 (.f 37) [(.t 41), (.t 42)]),
 .o (.mv 8 (.t 43)),
 .o (.mv 9 (.c (.i 0))),
 .ret]
theorem cc11 : Tryd.f11.body.map cc = some c11 := by kernel_rfl
theorem rs11 : Tryd.f11.results.toList.map cRS = [.t 8, .t 9] := by kernel_rfl
-- FN 12 livery/lmots.Candidate ntmps 85 params #[29, 23, 22, 24, 24]
def c12 : List C := [.o (.bx 5 29 (.t 0)),
 .o (.bx 6 23 (.t 1)),
 .o (.mv 10 (.c .nils)),
 .o (.mv 11 (.c (.i 0))),
 .o (.ld 19 29 (.t 5)),
 .o (.call 20 (.f 38) [(.t 19)]),
 .o (.mv 12 (.t 20)),
 .o (.mv 21 (.t 12)),
 .o (.bin 22 .neq 31 (.t 21) (.c (.i 0))),
 .ite (.t 22) [.o (.mv 23 (.t 12)),
  .o (.mv 10 (.c .nils)),
  .o (.mv 11 (.t 23)),
  .ret]
  [],
 .dr true 11 [.mv 24 (.t 4), .len 25 24 (.t 24), .ld 26 29 (.t 5), .call 27 (.f 39) [(.t 26)], .bin 28 .neq 3 (.t 25) (.t 27), .mv 29 (.t 28), .gd 29 false (.mv 30 (.t 4)), .gd 29 false (.slc 31 24 (.t 30) none (some (.c (.i 4))) none), .gd 29 false (.fa 32 29 (.t 5) 0), .gd 29 false (.ld 33 22 (.t 32)), .gd 29 false (.call 34 (.f 33) [(.t 33)]), .gd 29 false (.call 35 (.f 40) [(.t 31), (.t 34)]), .gd 29 false (.un 36 .not (.t 35)), .pick 37 (.t 29) (.c (.b true)) (.t 36)],
 .ite (.t 37) [.o (.mv 10 (.c .nils)),
  .o (.mv 11 (.c (.i 70))),
  .ret]
  [],
 .o (.ld 38 29 (.t 5)),
 .o (.ld 39 23 (.t 6)),
 .o (.mv 40 (.t 2)),
 .o (.call 41 (.f 30) [(.t 38), (.t 39), (.t 40)]),
 .o (.al 13 76),
 .o (.st 76 (.t 13) (.t 41)),
 .dr true 11 [.mv 42 (.t 4), .fa 43 29 (.t 5) 2, .ld 44 3 (.t 43), .bin 45 .add 3 (.c (.i 4)) (.t 44), .slc 46 24 (.t 42) (some (.c (.i 4))) (some (.t 45)) none, .mv 47 (.t 4), .fa 48 29 (.t 5) 2, .ld 49 3 (.t 48), .bin 50 .add 3 (.c (.i 4)) (.t 49), .slc 51 24 (.t 47) (some (.t 50)) none none, .mv 14 (.t 46), .mv 15 (.t 51)],
 .o (.mv 16 (.c .nils)),
 .o (.ld 52 76 (.t 13)),
 .o (.mv 53 (.t 14)),
 .o (.mv 54 (.t 3)),
 .o (.call 55 (.f 34) [(.t 52), (.t 53), (.t 54)]),
 .o (.len 56 60 (.t 55)),
 .o (.mv 57 (.c (.i 0))),
 .blk 0 [.lp [.o (.bin 58 .lss 3 (.t 57) (.t 56)),
   .ite (.t 58) []
    [.ex 0],
   .blk 1 [.o (.mv 59 (.t 57)),
    .o (.ia 60 60 (.t 55) (.t 57)),
    .o (.ld 61 3 (.t 60)),
    .o (.mv 17 (.t 59)),
    .o (.mv 18 (.t 61)),
    .dr true 18 [.mv 62 (.t 16), .ld 63 76 (.t 13), .mv 64 (.t 17), .mv 65 (.t 18), .ld 66 29 (.t 5), .call 67 (.f 36) [(.t 66)], .mv 68 (.t 15), .mv 69 (.t 17), .fa 70 29 (.t 5) 2, .ld 71 3 (.t 70), .bin 72 .mul 3 (.t 69) (.t 71), .mv 73 (.t 17), .bin 74 .add 3 (.t 73) (.c (.i 1)), .fa 75 29 (.t 5) 2, .ld 76 3 (.t 75), .bin 77 .mul 3 (.t 74) (.t 76), .slc 78 24 (.t 68) (some (.t 72)) (some (.t 77)) none, .call 79 (.f 35) [(.t 63), (.t 64), (.t 65), (.t 67), (.t 78)], .app 80 24 24 (.t 62) (.t 79), .mv 16 (.t 80)]],
   .o (.bin 81 .add 3 (.t 57) (.c (.i 1))),
   .o (.mv 57 (.t 81))]],
 .o (.ld 82 76 (.t 13)),
 .o (.mv 83 (.t 16)),
 .o (.call 84 (.f 37) [(.t 82), (.t 83)]),
 .o (.mv 10 (.t 84)),
 .o (.mv 11 (.c (.i 0))),
 .ret]
theorem cc12 : Tryd.f12.body.map cc = some c12 := by kernel_rfl
theorem rs12 : Tryd.f12.results.toList.map cRS = [.t 10, .t 11] := by kernel_rfl
-- FN 28 livery/lmots.Digits ntmps 20 params #[29, 24]
def c28 : List C := [.o (.bx 2 29 (.t 0)),
 .o (.mv 4 (.c .nils)),
 .o (.mv 5 (.c (.i 0))),
 .o (.ld 7 29 (.t 2)),
 .o (.call 8 (.f 38) [(.t 7)]),
 .o (.mv 6 (.t 8)),
 .o (.mv 9 (.t 6)),
 .o (.bin 10 .neq 31 (.t 9) (.c (.i 0))),
 .ite (.t 10) [.o (.mv 11 (.t 6)),
  .o (.mv 4 (.c .nils)),
  .o (.mv 5 (.t 11)),
  .ret]
  [],
 .o (.mv 12 (.t 1)),
 .o (.len 13 24 (.t 12)),
 .o (.fa 14 29 (.t 2) 2),
 .o (.ld 15 3 (.t 14)),
 .o (.bin 16 .neq 3 (.t 13) (.t 15)),
 .ite (.t 16) [.o (.mv 4 (.c .nils)),
  .o (.mv 5 (.c (.i 1))),
  .ret]
  [],
 .o (.ld 17 29 (.t 2)),
 .o (.mv 18 (.t 1)),
 .o (.call 19 (.f 60) [(.t 17), (.t 18)]),
 .o (.mv 4 (.t 19)),
 .o (.mv 5 (.c (.i 0))),
 .ret]
theorem cc28 : Tryd.f28.body.map cc = some c28 := by kernel_rfl
theorem rs28 : Tryd.f28.results.toList.map cRS = [.t 4, .t 5] := by kernel_rfl
-- FN 29 livery/lmots.seeded ntmps 16 params #[29, 24]
def c29 : List C := [.o (.bx 2 29 (.t 0)),
 .o (.mv 4 (.c (.i 0))),
 .o (.ld 6 29 (.t 2)),
 .o (.call 7 (.f 38) [(.t 6)]),
 .o (.mv 5 (.t 7)),
 .o (.mv 8 (.t 5)),
 .o (.bin 9 .neq 31 (.t 8) (.c (.i 0))),
 .ite (.t 9) [.o (.mv 10 (.t 5)),
  .o (.mv 4 (.t 10)),
  .ret]
  [],
 .o (.mv 11 (.t 1)),
 .o (.len 12 24 (.t 11)),
 .o (.fa 13 29 (.t 2) 2),
 .o (.ld 14 3 (.t 13)),
 .o (.bin 15 .neq 3 (.t 12) (.t 14)),
 .ite (.t 15) [.o (.mv 4 (.c (.i 1))),
  .ret]
  [],
 .o (.mv 4 (.c (.i 0))),
 .ret]
theorem cc29 : Tryd.f29.body.map cc = some c29 := by kernel_rfl
theorem rs29 : Tryd.f29.results.toList.map cRS = [.t 4] := by kernel_rfl
-- FN 30 livery/lmots.at ntmps 14 params #[29, 23, 22]
def c30 : List C := [.o (.bx 3 29 (.t 0)),
 .o (.bx 4 23 (.t 1)),
 .o (.al 6 76),
 .dr true 6 [.ld 7 29 (.t 3), .slc 8 23 (.t 4) none none none, .mv 9 (.t 2), .call 10 (.f 33) [(.t 9)], .bsl 11 61 2 [(0, (.t 8)), (1, (.t 10))], .call 12 (.f 32) [(.t 11)], .bld 13 76 [(0, (.t 7)), (1, (.t 12))], .st 76 (.t 6) (.t 13)],
 .ret]
theorem cc30 : Tryd.f30.body.map cc = some c30 := by kernel_rfl
theorem rs30 : Tryd.f30.results.toList.map cRS = [.c 6 76] := by kernel_rfl
-- FN 31 (livery/lmots.leaf).secret ntmps 18 params #[76, 3, 24]
def c31 : List C := [.o (.bx 3 76 (.t 0)),
 .o (.mv 6 (.c .nils)),
 .dr true 10 [.fa 7 76 (.t 3) 0, .ld 8 29 (.t 7), .fa 9 76 (.t 3) 1, .ld 10 24 (.t 9), .mv 11 (.t 1), .cv 12 3 103 (.t 11), .call 13 (.f 62) [(.t 12)], .bsl 14 24 1 [(0, (.c (.u8 255)))], .mv 15 (.t 2), .bsl 16 61 4 [(0, (.t 10)), (1, (.t 13)), (2, (.t 14)), (3, (.t 15))], .call 17 (.f 61) [(.t 8), (.t 16)], .mv 6 (.t 17)],
 .ret]
theorem cc31 : Tryd.f31.body.map cc = some c31 := by kernel_rfl
theorem rs31 : Tryd.f31.results.toList.map cRS = [.t 6] := by kernel_rfl
-- FN 34 (livery/lmots.leaf).said ntmps 19 params #[76, 24, 24]
def c34 : List C := [.o (.bx 3 76 (.t 0)),
 .o (.mv 6 (.c .nils)),
 .dr true 11 [.fa 7 76 (.t 3) 0, .ld 8 29 (.t 7), .fa 9 76 (.t 3) 0, .ld 10 29 (.t 9), .fa 11 76 (.t 3) 1, .ld 12 24 (.t 11), .call 13 (.f 62) [(.c (.u16 33153))], .mv 14 (.t 1), .mv 15 (.t 2), .bsl 16 61 4 [(0, (.t 12)), (1, (.t 13)), (2, (.t 14)), (3, (.t 15))], .call 17 (.f 61) [(.t 10), (.t 16)], .call 18 (.f 60) [(.t 8), (.t 17)], .mv 6 (.t 18)],
 .ret]
theorem cc34 : Tryd.f34.body.map cc = some c34 := by kernel_rfl
theorem rs34 : Tryd.f34.results.toList.map cRS = [.t 6] := by kernel_rfl
-- FN 35 (livery/lmots.leaf).goes ntmps 32 params #[76, 3, 3, 3, 24]
def c35 : List C := [.o (.bx 5 76 (.t 0)),
 .o (.mv 10 (.c .nils)),
 .o (.mv 12 (.t 2)),
 .o (.mv 11 (.t 12)),
 .blk 0 [.lp [.o (.mv 13 (.t 11)),
   .o (.mv 14 (.t 3)),
   .o (.bin 15 .lss 3 (.t 13) (.t 14)),
   .ite (.t 15) []
    [.ex 0],
   .blk 1 [.dr true 12 [.fa 18 76 (.t 5) 0, .ld 19 29 (.t 18), .fa 20 76 (.t 5) 1, .ld 21 24 (.t 20), .mv 22 (.t 1), .cv 23 3 103 (.t 22), .call 24 (.f 62) [(.t 23)], .mv 25 (.t 11), .cv 26 3 5 (.t 25), .bsl 27 24 1 [(0, (.t 26))], .mv 28 (.t 4), .bsl 29 61 4 [(0, (.t 21)), (1, (.t 24)), (2, (.t 27)), (3, (.t 28))], .call 30 (.f 61) [(.t 19), (.t 29)], .mv 4 (.t 30)]],
   .o (.mv 16 (.t 11)),
   .o (.bin 17 .add 3 (.t 16) (.c (.i 1))),
   .o (.mv 11 (.t 17))]],
 .o (.mv 31 (.t 4)),
 .o (.mv 10 (.t 31)),
 .ret]
theorem cc35 : Tryd.f35.body.map cc = some c35 := by kernel_rfl
theorem rs35 : Tryd.f35.results.toList.map cRS = [.t 10] := by kernel_rfl
-- FN 36 livery/lmots.top ntmps 7 params #[29]
def c36 : List C := [.o (.bx 1 29 (.t 0)),
 .o (.mv 2 (.c (.i 0))),
 .o (.fa 3 29 (.t 1) 3),
 .o (.ld 4 3 (.t 3)),
 .o (.bin 5 .shl 3 (.c (.i 1)) (.t 4)),
 .o (.bin 6 .sub 3 (.t 5) (.c (.i 1))),
 .o (.mv 2 (.t 6)),
 .ret]
theorem cc36 : Tryd.f36.body.map cc = some c36 := by kernel_rfl
theorem rs36 : Tryd.f36.results.toList.map cRS = [.t 2] := by kernel_rfl
-- FN 37 (livery/lmots.leaf).shut ntmps 13 params #[76, 24]
def c37 : List C := [.o (.bx 2 76 (.t 0)),
 .o (.mv 4 (.c .nils)),
 .dr true 7 [.fa 5 76 (.t 2) 0, .ld 6 29 (.t 5), .fa 7 76 (.t 2) 1, .ld 8 24 (.t 7), .call 9 (.f 62) [(.c (.u16 32896))], .mv 10 (.t 1), .bsl 11 61 3 [(0, (.t 8)), (1, (.t 9)), (2, (.t 10))], .call 12 (.f 61) [(.t 6), (.t 11)], .mv 4 (.t 12)],
 .ret]
theorem cc37 : Tryd.f37.body.map cc = some c37 := by kernel_rfl
theorem rs37 : Tryd.f37.results.toList.map cRS = [.t 4] := by kernel_rfl
-- FN 38 livery/lmots.may ntmps 18 params #[29]
def c38 : List C := [.o (.bx 1 29 (.t 0)),
 .o (.mv 2 (.c (.i 0))),
 .o (.fa 6 29 (.t 1) 0),
 .o (.ld 7 22 (.t 6)),
 .o (.call 8 (.f 64) [(.t 7)]),
 .o (.mv 5 (.t 8)),
 .o (.ext 9 (.t 5) 0),
 .o (.ext 10 (.t 5) 1),
 .o (.al 3 29),
 .o (.st 29 (.t 3) (.t 9)),
 .o (.mv 4 (.t 10)),
 .blk 0 [.blk 2 [.blk 1 [.o (.mv 12 (.t 4)),
    .o (.bin 13 .neq 31 (.t 12) (.c (.i 0))),
    .o (.mv 11 (.t 13)),
    .ite (.t 11) [.ex 1]
     [],
    .o (.ld 15 29 (.t 3)),
    .o (.ld 16 29 (.t 1)),
    .o (.bin 17 .neq 29 (.t 15) (.t 16)),
    .o (.mv 14 (.t 17)),
    .ite (.t 14) [.ex 2]
     [],
    .ex 0]],
  .o (.mv 2 (.c (.i 60))),
  .ret,
  .ex 0],
 .o (.mv 2 (.c (.i 0))),
 .ret]
theorem cc38 : Tryd.f38.body.map cc = some c38 := by kernel_rfl
theorem rs38 : Tryd.f38.results.toList.map cRS = [.t 2] := by kernel_rfl
-- FN 60 livery/lmots.digits ntmps 42 params #[29, 24]
def c60 : List C := [.o (.bx 2 29 (.t 0)),
 .o (.mv 4 (.c .nils)),
 .o (.ld 9 29 (.t 2)),
 .o (.mv 10 (.t 1)),
 .o (.fa 11 29 (.t 2) 4),
 .o (.ld 12 3 (.t 11)),
 .o (.call 13 (.f 76) [(.t 9), (.t 10), (.t 12)]),
 .o (.mv 5 (.t 13)),
 .o (.mv 6 (.c (.i 0))),
 .o (.mv 14 (.t 5)),
 .o (.len 15 60 (.t 14)),
 .o (.mv 16 (.c (.i 0))),
 .blk 0 [.lp [.o (.bin 17 .lss 3 (.t 16) (.t 15)),
   .ite (.t 17) []
    [.ex 0],
   .blk 1 [.o (.ia 18 60 (.t 14) (.t 16)),
    .o (.ld 19 3 (.t 18)),
    .o (.mv 8 (.t 19)),
    .o (.mv 20 (.t 6)),
    .o (.ld 21 29 (.t 2)),
    .o (.call 22 (.f 36) [(.t 21)]),
    .o (.mv 23 (.t 8)),
    .o (.bin 24 .sub 3 (.t 22) (.t 23)),
    .o (.bin 25 .add 3 (.t 20) (.t 24)),
    .o (.mv 6 (.t 25))],
   .o (.bin 26 .add 3 (.t 16) (.c (.i 1))),
   .o (.mv 16 (.t 26))]],
 .dr true 14 [.mv 27 (.t 5), .ld 28 29 (.t 2), .mv 29 (.t 6), .fa 30 29 (.t 2) 5, .ld 31 3 (.t 30), .bin 32 .shl 3 (.t 29) (.t 31), .cv 33 3 103 (.t 32), .call 34 (.f 62) [(.t 33)], .fa 35 29 (.t 2) 4, .ld 36 3 (.t 35), .mv 37 (.t 5), .len 38 60 (.t 37), .bin 39 .sub 3 (.t 36) (.t 38), .call 40 (.f 76) [(.t 28), (.t 34), (.t 39)], .app 41 60 60 (.t 27) (.t 40), .mv 4 (.t 41)],
 .ret]
theorem cc60 : Tryd.f60.body.map cc = some c60 := by kernel_rfl
theorem rs60 : Tryd.f60.results.toList.map cRS = [.t 4] := by kernel_rfl
-- FN 61 livery/lmots.Hash ntmps 29 params #[29, 61]
def c61 : List C := [.o (.bx 2 29 (.t 0)),
 .o (.mv 4 (.c .nils)),
 .o (.ld 8 29 (.t 2)),
 .o (.call 9 (.f 38) [(.t 8)]),
 .o (.bin 10 .neq 31 (.t 9) (.c (.i 0))),
 .ite (.t 10) [.o (.mv 4 (.c .nils)),
  .ret]
  [],
 .blk 0 [.o (.fa 19 29 (.t 2) 1),
  .o (.ld 20 4 (.t 19)),
  .o (.mv 18 (.t 20)),
  .ite (.t 18) [.o (.fa 22 29 (.t 2) 2),
   .o (.ld 23 3 (.t 22)),
   .o (.mv 24 (.t 1)),
   .o (.call 25 (.f 77) [(.c (.i 256)), (.t 23), (.t 24)]),
   .o (.mv 21 (.t 25)),
   .o (.ext 26 (.t 21) 0),
   .o (.ext 27 (.t 21) 1),
   .o (.mv 5 (.t 26)),
   .o (.mv 6 (.t 27)),
   .o (.mv 28 (.t 5)),
   .o (.mv 4 (.t 28)),
   .ret]
   [.o (.mv 11 (.t 1)),
   .o (.call 12 (.f 78) [(.t 11)]),
   .o (.al 7 117),
   .o (.st 117 (.t 7) (.t 12)),
   .o (.fa 13 29 (.t 2) 2),
   .o (.ld 14 3 (.t 13)),
   .o (.fa 15 29 (.t 2) 2),
   .o (.ld 16 3 (.t 15)),
   .o (.slc 17 117 (.t 7) none (some (.t 14)) (some (.t 16))),
   .o (.mv 4 (.t 17)),
   .ret]]]
theorem cc61 : Tryd.f61.body.map cc = some c61 := by kernel_rfl
theorem rs61 : Tryd.f61.results.toList.map cRS = [.t 4] := by kernel_rfl
-- FN 76 livery/lmots.cut ntmps 48 params #[29, 24, 3]
def c76 : List C := [.o (.bx 3 29 (.t 0)),
 .o (.mv 6 (.c .nils)),
 .o (.mv 7 (.c .nils)),
 .o (.fa 11 29 (.t 3) 3),
 .o (.ld 12 3 (.t 11)),
 .o (.bin 13 .quo 3 (.c (.i 8)) (.t 12)),
 .o (.mv 8 (.t 13)),
 .o (.mv 14 (.t 1)),
 .o (.len 15 24 (.t 14)),
 .o (.mv 16 (.c (.i 0))),
 .blk 0 [.lp [.o (.bin 17 .lss 3 (.t 16) (.t 15)),
   .ite (.t 17) []
    [.ex 0],
   .blk 1 [.o (.mv 18 (.t 16)),
    .o (.mv 9 (.t 18)),
    .o (.mv 19 (.t 8)),
    .o (.mv 20 (.c (.i 0))),
    .blk 2 [.lp [.o (.bin 21 .lss 3 (.t 20) (.t 19)),
      .ite (.t 21) []
       [.ex 2],
      .blk 3 [.o (.mv 22 (.t 20)),
       .o (.mv 10 (.t 22)),
       .o (.mv 23 (.t 7)),
       .o (.len 24 60 (.t 23)),
       .o (.mv 25 (.t 2)),
       .o (.bin 26 .lss 3 (.t 24) (.t 25)),
       .ite (.t 26) [.dr true 17 [.mv 27 (.t 7), .mv 28 (.t 1), .mv 29 (.t 9), .ia 30 24 (.t 28) (.t 29), .ld 31 5 (.t 30), .cv 32 5 3 (.t 31), .fa 33 29 (.t 3) 3, .ld 34 3 (.t 33), .mv 35 (.t 10), .bin 36 .add 3 (.t 35) (.c (.i 1)), .bin 37 .mul 3 (.t 34) (.t 36), .bin 38 .sub 3 (.c (.i 8)) (.t 37), .bin 39 .shr 3 (.t 32) (.t 38), .ld 40 29 (.t 3), .call 41 (.f 36) [(.t 40)], .bin 42 .and 3 (.t 39) (.t 41), .bsl 43 60 1 [(0, (.t 42))], .app 44 60 60 (.t 27) (.t 43), .mv 7 (.t 44)]]
        []],
      .o (.bin 45 .add 3 (.t 20) (.c (.i 1))),
      .o (.mv 20 (.t 45))]]],
   .o (.bin 46 .add 3 (.t 16) (.c (.i 1))),
   .o (.mv 16 (.t 46))]],
 .o (.mv 47 (.t 7)),
 .o (.mv 6 (.t 47)),
 .ret]
theorem cc76 : Tryd.f76.body.map cc = some c76 := by kernel_rfl
theorem rs76 : Tryd.f76.results.toList.map cRS = [.t 6] := by kernel_rfl
end Go.Lv

namespace Go.Lv
open Go Go.Proofs
set_option maxRecDepth 100000
-- FN 17 livery/lms.Sign ntmps 61 params #[41, 29, 23, 24, 22, 24]
def c17 : List C := [.o (.bx 6 41 (.t 0)),
 .o (.bx 7 29 (.t 1)),
 .o (.bx 8 23 (.t 2)),
 .o (.mv 12 (.c .nils)),
 .o (.mv 13 (.c (.i 0))),
 .o (.ld 19 41 (.t 6)),
 .o (.ld 20 29 (.t 7)),
 .o (.ld 21 23 (.t 8)),
 .o (.mv 22 (.t 3)),
 .o (.mv 23 (.t 4)),
 .o (.call 24 (.f 43) [(.t 19), (.t 20), (.t 21), (.t 22), (.t 23)]),
 .o (.mv 18 (.t 24)),
 .o (.ext 25 (.t 18) 0),
 .o (.ext 26 (.t 18) 1),
 .o (.al 14 53),
 .o (.st 53 (.t 14) (.t 25)),
 .o (.mv 15 (.t 26)),
 .o (.mv 27 (.t 15)),
 .o (.bin 28 .neq 31 (.t 27) (.c (.i 0))),
 .ite (.t 28) [.o (.mv 29 (.t 15)),
  .o (.mv 12 (.c .nils)),
  .o (.mv 13 (.t 29)),
  .ret]
  [],
 .o (.ld 31 29 (.t 7)),
 .o (.ld 32 23 (.t 8)),
 .o (.mv 33 (.t 4)),
 .o (.fa 34 53 (.t 14) 3),
 .o (.ld 35 24 (.t 34)),
 .o (.mv 36 (.t 5)),
 .o (.call 37 (.f 8) [(.t 31), (.t 32), (.t 33), (.t 35), (.t 36)]),
 .o (.mv 30 (.t 37)),
 .o (.ext 38 (.t 30) 0),
 .o (.ext 39 (.t 30) 1),
 .o (.mv 16 (.t 38)),
 .o (.mv 15 (.t 39)),
 .o (.mv 40 (.t 15)),
 .o (.bin 41 .neq 31 (.t 40) (.c (.i 0))),
 .ite (.t 41) [.o (.mv 42 (.t 15)),
  .o (.mv 12 (.c .nils)),
  .o (.mv 13 (.t 42)),
  .ret]
  [],
 .o (.ld 44 53 (.t 14)),
 .o (.mv 45 (.t 4)),
 .o (.call 46 (.f 44) [(.t 44), (.t 45)]),
 .o (.mv 43 (.t 46)),
 .o (.ext 47 (.t 43) 0),
 .o (.ext 48 (.t 43) 1),
 .o (.mv 17 (.t 47)),
 .o (.mv 15 (.t 48)),
 .o (.mv 49 (.t 15)),
 .o (.bin 50 .neq 31 (.t 49) (.c (.i 0))),
 .ite (.t 50) [.o (.mv 51 (.t 15)),
  .o (.mv 12 (.c .nils)),
  .o (.mv 13 (.t 51)),
  .ret]
  [],
 .dr true 7 [.mv 52 (.t 4), .call 53 (.f 33) [(.t 52)], .mv 54 (.t 16), .fa 55 41 (.t 6) 0, .ld 56 22 (.t 55), .call 57 (.f 33) [(.t 56)], .mv 58 (.t 17), .bsl 59 61 4 [(0, (.t 53)), (1, (.t 54)), (2, (.t 57)), (3, (.t 58))], .call 60 (.f 32) [(.t 59)], .mv 12 (.t 60), .mv 13 (.c (.i 0))],
 .ret]
theorem cc17 : Tryd.f17.body.map cc = some c17 := by kernel_rfl
theorem rs17 : Tryd.f17.results.toList.map cRS = [.t 12, .t 13] := by kernel_rfl
-- FN 18 livery/lms.Public ntmps 33 params #[41, 29, 23, 24]
def c18 : List C := [.o (.bx 4 41 (.t 0)),
 .o (.bx 5 29 (.t 1)),
 .o (.bx 6 23 (.t 2)),
 .o (.mv 8 (.c .nils)),
 .o (.mv 9 (.c (.i 0))),
 .o (.ld 13 41 (.t 4)),
 .o (.ld 14 29 (.t 5)),
 .o (.ld 15 23 (.t 6)),
 .o (.mv 16 (.t 3)),
 .o (.call 17 (.f 45) [(.t 13), (.t 14), (.t 15), (.t 16)]),
 .o (.mv 12 (.t 17)),
 .o (.ext 18 (.t 12) 0),
 .o (.ext 19 (.t 12) 1),
 .o (.mv 10 (.t 18)),
 .o (.mv 11 (.t 19)),
 .o (.mv 20 (.t 11)),
 .o (.bin 21 .neq 31 (.t 20) (.c (.i 0))),
 .ite (.t 21) [.o (.mv 22 (.t 11)),
  .o (.mv 8 (.c .nils)),
  .o (.mv 9 (.t 22)),
  .ret]
  [],
 .dr true 8 [.fa 23 41 (.t 4) 0, .ld 24 22 (.t 23), .call 25 (.f 33) [(.t 24)], .fa 26 29 (.t 5) 0, .ld 27 22 (.t 26), .call 28 (.f 33) [(.t 27)], .slc 29 23 (.t 6) none none none, .mv 30 (.t 10), .bsl 31 61 4 [(0, (.t 25)), (1, (.t 28)), (2, (.t 29)), (3, (.t 30))], .call 32 (.f 32) [(.t 31)], .mv 8 (.t 32), .mv 9 (.c (.i 0))],
 .ret]
theorem cc18 : Tryd.f18.body.map cc = some c18 := by kernel_rfl
theorem rs18 : Tryd.f18.results.toList.map cRS = [.t 8, .t 9] := by kernel_rfl
-- FN 19 livery/lms.Index ntmps 9 params #[24]
def c19 : List C := [.o (.mv 2 (.c (.u32 0))),
 .o (.mv 3 (.c (.i 0))),
 .o (.mv 4 (.t 0)),
 .o (.len 5 24 (.t 4)),
 .o (.bin 6 .lss 3 (.t 5) (.c (.i 4))),
 .ite (.t 6) [.o (.mv 2 (.c (.u32 0))),
  .o (.mv 3 (.c (.i 70))),
  .ret]
  [],
 .o (.mv 7 (.t 0)),
 .o (.call 8 (.f 46) [(.t 7)]),
 .o (.mv 2 (.t 8)),
 .o (.mv 3 (.c (.i 0))),
 .ret]
theorem cc19 : Tryd.f19.body.map cc = some c19 := by kernel_rfl
theorem rs19 : Tryd.f19.results.toList.map cRS = [.t 2, .t 3] := by kernel_rfl
-- FN 20 livery/lms.Verify ntmps 82 params #[24, 24, 24]
def c20 : List C := [.o (.mv 6 (.c (.i 0))),
 .o (.mv 15 (.t 0)),
 .o (.call 16 (.f 47) [(.t 15)]),
 .o (.mv 14 (.t 16)),
 .o (.ext 17 (.t 14) 0),
 .o (.ext 18 (.t 14) 1),
 .o (.ext 19 (.t 14) 2),
 .o (.al 7 53),
 .o (.st 53 (.t 7) (.t 17)),
 .o (.mv 8 (.t 18)),
 .o (.mv 9 (.t 19)),
 .o (.mv 20 (.t 9)),
 .o (.un 21 .not (.t 20)),
 .ite (.t 21) [.o (.mv 6 (.c (.i 81))),
  .ret]
  [],
 .o (.mv 22 (.t 2)),
 .o (.len 23 24 (.t 22)),
 .o (.fa 24 53 (.t 7) 0),
 .o (.ld 25 41 (.t 24)),
 .o (.fa 26 53 (.t 7) 1),
 .o (.ld 27 29 (.t 26)),
 .o (.call 28 (.f 48) [(.t 25), (.t 27)]),
 .o (.bin 29 .neq 3 (.t 23) (.t 28)),
 .ite (.t 29) [.o (.mv 6 (.c (.i 70))),
  .ret]
  [],
 .dr true 7 [.mv 30 (.t 2), .call 31 (.f 46) [(.t 30)], .fa 32 53 (.t 7) 1, .ld 33 29 (.t 32), .call 34 (.f 39) [(.t 33)], .bin 35 .add 3 (.c (.i 4)) (.t 34), .mv 10 (.t 31), .mv 11 (.t 35)],
 .dr true 13 [.mv 36 (.t 10), .cv 37 22 55 (.t 36), .ld 38 53 (.t 7), .call 39 (.f 49) [(.t 38)], .bin 40 .geq 55 (.t 37) (.t 39), .mv 41 (.t 40), .gd 41 false (.mv 42 (.t 2)), .gd 41 false (.mv 43 (.t 11)), .gd 41 false (.slc 44 24 (.t 42) (some (.t 43)) none none), .gd 41 false (.call 45 (.f 46) [(.t 44)]), .gd 41 false (.fa 46 53 (.t 7) 0), .gd 41 false (.fa 47 41 (.t 46) 0), .gd 41 false (.ld 48 22 (.t 47)), .gd 41 false (.bin 49 .neq 22 (.t 45) (.t 48)), .pick 50 (.t 41) (.c (.b true)) (.t 49)],
 .ite (.t 50) [.o (.mv 6 (.c (.i 70))),
  .ret]
  [],
 .dr true 14 [.fa 52 53 (.t 7) 1, .ld 53 29 (.t 52), .fa 54 53 (.t 7) 2, .ld 55 23 (.t 54), .mv 56 (.t 10), .mv 57 (.t 1), .mv 58 (.t 2), .mv 59 (.t 11), .slc 60 24 (.t 58) (some (.c (.i 4))) (some (.t 59)) none, .call 61 (.f 12) [(.t 53), (.t 55), (.t 56), (.t 57), (.t 60)], .mv 51 (.t 61), .ext 62 (.t 51) 0, .ext 63 (.t 51) 1, .mv 12 (.t 62), .mv 13 (.t 63)],
 .dr true 15 [.mv 64 (.t 13), .bin 65 .neq 31 (.t 64) (.c (.i 0)), .mv 66 (.t 65), .gd 66 false (.ld 67 53 (.t 7)), .gd 66 false (.mv 68 (.t 10)), .gd 66 false (.ld 69 53 (.t 7)), .gd 66 false (.mv 70 (.t 10)), .gd 66 false (.mv 71 (.t 12)), .gd 66 false (.call 72 (.f 51) [(.t 69), (.t 70), (.t 71)]), .gd 66 false (.mv 73 (.t 2)), .gd 66 false (.mv 74 (.t 11)), .gd 66 false (.bin 75 .add 3 (.t 74) (.c (.i 4))), .gd 66 false (.slc 76 24 (.t 73) (some (.t 75)) none none), .gd 66 false (.call 77 (.f 50) [(.t 67), (.t 68), (.t 72), (.t 76)]), .gd 66 false (.mv 78 (.t 8)), .gd 66 false (.call 79 (.f 40) [(.t 77), (.t 78)]), .gd 66 false (.un 80 .not (.t 79)), .pick 81 (.t 66) (.c (.b true)) (.t 80)],
 .ite (.t 81) [.o (.mv 6 (.c (.i 70))),
  .ret]
  [],
 .o (.mv 6 (.c (.i 0))),
 .ret]
theorem cc20 : Tryd.f20.body.map cc = some c20 := by kernel_rfl
theorem rs20 : Tryd.f20.results.toList.map cRS = [.t 6] := by kernel_rfl
-- FN 21 (*livery/lms.Tree).Top ntmps 25 params #[51]
def c21 : List C := [.o (.mv 2 (.c .nils)),
 .o (.mv 3 (.c (.i 0))),
 .o (.mv 7 (.t 0)),
 .o (.call 8 (.f 52) [(.t 7)]),
 .ite (.t 8) [.o (.mv 2 (.c .nils)),
  .o (.mv 3 (.c (.i 2))),
  .ret]
  [],
 .dr true 9 [.mv 9 (.t 0), .nc 10 (.t 9), .fa 11 57 (.t 10) 2, .ld 12 55 (.t 11), .mv 13 (.t 0), .nc 14 (.t 13), .fa 15 57 (.t 14) 0, .ld 16 53 (.t 15), .call 17 (.f 49) [(.t 16)], .bin 18 .neq 55 (.t 12) (.t 17)],
 .ite (.t 18) [.o (.mv 2 (.c .nils)),
  .o (.mv 3 (.c (.i 9))),
  .ret]
  [],
 .o (.al 4 24),
 .o (.mv 19 (.t 0)),
 .o (.call 20 (.f 23) [(.t 19)]),
 .blk 0 [.rf (.t 20) [21, 22] [.o (.mv 6 (.t 22))]
   [.blk 1 [.o (.mv 23 (.t 6)),
    .o (.st 24 (.t 4) (.t 23))]]],
 .o (.ld 24 24 (.t 4)),
 .o (.mv 2 (.t 24)),
 .o (.mv 3 (.c (.i 0))),
 .ret]
theorem cc21 : Tryd.f21.body.map cc = some c21 := by kernel_rfl
theorem rs21 : Tryd.f21.results.toList.map cRS = [.t 2, .t 3] := by kernel_rfl
-- FN 23 (*livery/lms.Tree).All ntmps 4 params #[51]
def c23 : List C := [.o (.bx 1 51 (.t 0)),
 .o (.mv 2 (.c .nilfn)),
 .o (.mkf 3 (.func 53) [] [(.t 1)]),
 .o (.mv 2 (.t 3)),
 .ret]
theorem cc23 : Tryd.f23.body.map cc = some c23 := by kernel_rfl
theorem rs23 : Tryd.f23.results.toList.map cRS = [.t 2] := by kernel_rfl
-- FN 24 (*livery/lms.Tree).Add ntmps 132 params #[51]
def c24 : List C := [.o (.mv 2 (.c (.i 0))),
 .bad]
theorem cc24 : Tryd.f24.body.map cc = some c24 := by kernel_rfl
theorem rs24 : Tryd.f24.results.toList.map cRS = [.t 2] := by kernel_rfl
-- FN 25 (*livery/lms.Tree).Count ntmps 9 params #[51]
def c25 : List C := [.o (.mv 2 (.c (.u64 0))),
 .o (.mv 3 (.t 0)),
 .o (.call 4 (.f 52) [(.t 3)]),
 .ite (.t 4) [.o (.mv 2 (.c (.u64 0))),
  .ret]
  [],
 .o (.mv 5 (.t 0)),
 .o (.nc 6 (.t 5)),
 .o (.fa 7 57 (.t 6) 2),
 .o (.ld 8 55 (.t 7)),
 .o (.mv 2 (.t 8)),
 .ret]
theorem cc25 : Tryd.f25.body.map cc = some c25 := by kernel_rfl
theorem rs25 : Tryd.f25.results.toList.map cRS = [.t 2] := by kernel_rfl
-- FN 26 (*livery/lms.Tree).Held ntmps 10 params #[51]
def c26 : List C := [.o (.mv 2 (.c (.i 0))),
 .o (.mv 3 (.t 0)),
 .o (.call 4 (.f 52) [(.t 3)]),
 .ite (.t 4) [.o (.mv 2 (.c (.i 0))),
  .ret]
  [],
 .o (.mv 5 (.t 0)),
 .o (.nc 6 (.t 5)),
 .o (.fa 7 57 (.t 6) 1),
 .o (.ld 8 54 (.t 7)),
 .o (.len 9 54 (.t 8)),
 .o (.mv 2 (.t 9)),
 .ret]
theorem cc26 : Tryd.f26.body.map cc = some c26 := by kernel_rfl
theorem rs26 : Tryd.f26.results.toList.map cRS = [.t 2] := by kernel_rfl
-- FN 43 livery/lms.at ntmps 33 params #[41, 29, 23, 24, 22]
def c43 : List C := [.o (.bx 5 41 (.t 0)),
 .o (.bx 6 29 (.t 1)),
 .o (.bx 7 23 (.t 2)),
 .o (.al 10 53),
 .o (.mv 11 (.c (.i 0))),
 .o (.ld 15 41 (.t 5)),
 .o (.ld 16 29 (.t 6)),
 .o (.ld 17 23 (.t 7)),
 .o (.mv 18 (.t 3)),
 .o (.call 19 (.f 68) [(.t 15), (.t 16), (.t 17), (.t 18)]),
 .o (.mv 14 (.t 19)),
 .o (.ext 20 (.t 14) 0),
 .o (.ext 21 (.t 14) 1),
 .o (.al 12 53),
 .o (.st 53 (.t 12) (.t 20)),
 .o (.mv 13 (.t 21)),
 .o (.mv 22 (.t 13)),
 .o (.bin 23 .eql 31 (.t 22) (.c (.i 0))),
 .o (.mv 24 (.t 23)),
 .o (.gd 24 true (.mv 25 (.t 4))),
 .o (.gd 24 true (.cv 26 22 55 (.t 25))),
 .o (.gd 24 true (.ld 27 53 (.t 12))),
 .o (.gd 24 true (.call 28 (.f 49) [(.t 27)])),
 .o (.gd 24 true (.bin 29 .geq 55 (.t 26) (.t 28))),
 .o (.pick 30 (.t 24) (.t 29) (.c (.b false))),
 .ite (.t 30) [.o (.mv 13 (.c (.i 80)))]
  [],
 .o (.ld 31 53 (.t 12)),
 .o (.mv 32 (.t 13)),
 .o (.st 53 (.t 10) (.t 31)),
 .o (.mv 11 (.t 32)),
 .ret]
theorem cc43 : Tryd.f43.body.map cc = some c43 := by kernel_rfl
theorem rs43 : Tryd.f43.results.toList.map cRS = [.c 10 53, .t 11] := by kernel_rfl
-- FN 44 (livery/lms.key).path ntmps 36 params #[53, 22]
def c44 : List C := [.o (.bx 2 53 (.t 0)),
 .o (.mv 4 (.c .nils)),
 .o (.mv 5 (.c (.i 0))),
 .o (.mv 6 (.c .nils)),
 .o (.fa 10 53 (.t 2) 0),
 .o (.fa 11 41 (.t 10) 3),
 .o (.ld 12 3 (.t 11)),
 .o (.mv 13 (.c (.i 0))),
 .blk 0 [.lp [.o (.bin 14 .lss 3 (.t 13) (.t 12)),
   .ite (.t 14) []
    [.ex 0],
   .blk 1 [.o (.mv 15 (.t 13)),
    .o (.mv 7 (.t 15)),
    .dr true 13 [.ld 17 53 (.t 2), .mv 18 (.t 7), .mv 19 (.t 1), .mv 20 (.t 7), .bin 21 .shr 22 (.t 19) (.t 20), .bin 22 .xor 22 (.t 21) (.c (.u32 1)), .mv 23 (.t 7), .bin 24 .shl 22 (.t 22) (.t 23), .call 25 (.f 69) [(.t 17), (.t 18), (.t 24)], .mv 16 (.t 25), .ext 26 (.t 16) 0, .ext 27 (.t 16) 1, .mv 8 (.t 26), .mv 9 (.t 27)],
    .o (.mv 28 (.t 9)),
    .o (.bin 29 .neq 31 (.t 28) (.c (.i 0))),
    .ite (.t 29) [.o (.mv 30 (.t 9)),
     .o (.mv 4 (.c .nils)),
     .o (.mv 5 (.t 30)),
     .ret]
     [],
    .o (.mv 31 (.t 6)),
    .o (.mv 32 (.t 8)),
    .o (.app 33 24 24 (.t 31) (.t 32)),
    .o (.mv 6 (.t 33))],
   .o (.bin 34 .add 3 (.t 13) (.c (.i 1))),
   .o (.mv 13 (.t 34))]],
 .o (.mv 35 (.t 6)),
 .o (.mv 4 (.t 35)),
 .o (.mv 5 (.c (.i 0))),
 .ret]
theorem cc44 : Tryd.f44.body.map cc = some c44 := by kernel_rfl
theorem rs44 : Tryd.f44.results.toList.map cRS = [.t 4, .t 5] := by kernel_rfl
-- FN 45 livery/lms.Root ntmps 36 params #[41, 29, 23, 24]
def c45 : List C := [.o (.bx 4 41 (.t 0)),
 .o (.bx 5 29 (.t 1)),
 .o (.bx 6 23 (.t 2)),
 .o (.mv 8 (.c .nils)),
 .o (.mv 9 (.c (.i 0))),
 .o (.ld 14 41 (.t 4)),
 .o (.ld 15 29 (.t 5)),
 .o (.ld 16 23 (.t 6)),
 .o (.mv 17 (.t 3)),
 .o (.call 18 (.f 68) [(.t 14), (.t 15), (.t 16), (.t 17)]),
 .o (.mv 13 (.t 18)),
 .o (.ext 19 (.t 13) 0),
 .o (.ext 20 (.t 13) 1),
 .o (.al 10 53),
 .o (.st 53 (.t 10) (.t 19)),
 .o (.mv 11 (.t 20)),
 .o (.mv 21 (.t 11)),
 .o (.bin 22 .neq 31 (.t 21) (.c (.i 0))),
 .ite (.t 22) [.o (.mv 23 (.t 11)),
  .o (.mv 8 (.c .nils)),
  .o (.mv 9 (.t 23)),
  .ret]
  [],
 .o (.ld 25 53 (.t 10)),
 .o (.call 26 (.f 70) [(.t 25)]),
 .o (.mv 24 (.t 26)),
 .o (.ext 27 (.t 24) 0),
 .o (.ext 28 (.t 24) 1),
 .o (.mv 12 (.t 27)),
 .o (.mv 11 (.t 28)),
 .o (.mv 29 (.t 11)),
 .o (.bin 30 .neq 31 (.t 29) (.c (.i 0))),
 .ite (.t 30) [.o (.mv 31 (.t 11)),
  .o (.mv 8 (.c .nils)),
  .o (.mv 9 (.t 31)),
  .ret]
  [],
 .o (.mv 32 (.t 12)),
 .o (.call 33 (.f 21) [(.t 32)]),
 .o (.ext 34 (.t 33) 0),
 .o (.ext 35 (.t 33) 1),
 .o (.mv 8 (.t 34)),
 .o (.mv 9 (.t 35)),
 .ret]
theorem cc45 : Tryd.f45.body.map cc = some c45 := by kernel_rfl
theorem rs45 : Tryd.f45.results.toList.map cRS = [.t 8, .t 9] := by kernel_rfl
-- FN 46 livery/lms.number ntmps 13 params #[24]
def c46 : List C := [.o (.mv 2 (.c (.u32 0))),
 .o (.mv 6 (.t 0)),
 .o (.slc 7 24 (.t 6) none (some (.c (.i 4))) none),
 .o (.call 8 (.f 71) [(.t 7)]),
 .o (.mv 5 (.t 8)),
 .o (.ext 9 (.t 5) 0),
 .o (.ext 10 (.t 5) 1),
 .o (.mv 3 (.t 9)),
 .o (.mv 4 (.t 10)),
 .o (.mv 11 (.t 3)),
 .o (.cv 12 55 22 (.t 11)),
 .o (.mv 2 (.t 12)),
 .ret]
theorem cc46 : Tryd.f46.body.map cc = some c46 := by kernel_rfl
theorem rs46 : Tryd.f46.results.toList.map cRS = [.t 2] := by kernel_rfl
-- FN 47 livery/lms.public ntmps 55 params #[24]
def c47 : List C := [.o (.al 2 53),
 .o (.mv 3 (.c .nils)),
 .o (.mv 4 (.c (.b false))),
 .o (.mv 9 (.t 0)),
 .o (.len 10 24 (.t 9)),
 .o (.bin 11 .lss 3 (.t 10) (.c (.i 8))),
 .ite (.t 11) [.o (.bld 12 53 []),
  .o (.st 53 (.t 2) (.t 12)),
  .o (.mv 3 (.c .nils)),
  .o (.mv 4 (.c (.b false))),
  .ret]
  [],
 .o (.mv 14 (.t 0)),
 .o (.call 15 (.f 46) [(.t 14)]),
 .o (.call 16 (.f 72) [(.t 15)]),
 .o (.mv 13 (.t 16)),
 .o (.ext 17 (.t 13) 0),
 .o (.ext 18 (.t 13) 1),
 .o (.al 5 41),
 .o (.st 41 (.t 5) (.t 17)),
 .o (.mv 6 (.t 18)),
 .o (.mv 20 (.t 0)),
 .o (.slc 21 24 (.t 20) (some (.c (.i 4))) none none),
 .o (.call 22 (.f 46) [(.t 21)]),
 .o (.call 23 (.f 64) [(.t 22)]),
 .o (.mv 19 (.t 23)),
 .o (.ext 24 (.t 19) 0),
 .o (.ext 25 (.t 19) 1),
 .o (.al 7 29),
 .o (.st 29 (.t 7) (.t 24)),
 .o (.mv 8 (.t 25)),
 .o (.mv 26 (.t 6)),
 .o (.bin 27 .neq 31 (.t 26) (.c (.i 0))),
 .o (.mv 28 (.t 27)),
 .o (.gd 28 false (.mv 29 (.t 8))),
 .o (.gd 28 false (.bin 30 .neq 31 (.t 29) (.c (.i 0)))),
 .o (.pick 31 (.t 28) (.c (.b true)) (.t 30)),
 .o (.mv 32 (.t 31)),
 .o (.gd 32 false (.ld 33 41 (.t 5))),
 .o (.gd 32 false (.ld 34 29 (.t 7))),
 .o (.gd 32 false (.call 35 (.f 73) [(.t 33), (.t 34)])),
 .o (.gd 32 false (.un 36 .not (.t 35))),
 .o (.pick 37 (.t 32) (.c (.b true)) (.t 36)),
 .o (.mv 38 (.t 37)),
 .o (.gd 38 false (.mv 39 (.t 0))),
 .o (.gd 38 false (.len 40 24 (.t 39))),
 .o (.gd 38 false (.ld 41 41 (.t 5))),
 .o (.gd 38 false (.call 42 (.f 74) [(.t 41)])),
 .o (.gd 38 false (.bin 43 .neq 3 (.t 40) (.t 42))),
 .o (.pick 44 (.t 38) (.c (.b true)) (.t 43)),
 .ite (.t 44) [.o (.bld 45 53 []),
  .o (.st 53 (.t 2) (.t 45)),
  .o (.mv 3 (.c .nils)),
  .o (.mv 4 (.c (.b false))),
  .ret]
  [],
 .dr true 10 [.ld 46 41 (.t 5), .ld 47 29 (.t 7), .mv 48 (.t 0), .slc 49 24 (.t 48) (some (.c (.i 8))) (some (.c (.i 24))) none, .sap 50 23 (.t 49), .ld 51 23 (.t 50), .bld 52 53 [(0, (.t 46)), (1, (.t 47)), (2, (.t 51))], .mv 53 (.t 0), .slc 54 24 (.t 53) (some (.c (.i 24))) none none, .st 53 (.t 2) (.t 52), .mv 3 (.t 54), .mv 4 (.c (.b true))],
 .ret]
theorem cc47 : Tryd.f47.body.map cc = some c47 := by kernel_rfl
theorem rs47 : Tryd.f47.results.toList.map cRS = [.c 2 53, .t 3, .t 4] := by kernel_rfl
-- FN 49 (livery/lms.key).leaves ntmps 7 params #[53]
def c49 : List C := [.o (.bx 1 53 (.t 0)),
 .o (.mv 2 (.c (.u64 0))),
 .o (.fa 3 53 (.t 1) 0),
 .o (.fa 4 41 (.t 3) 3),
 .o (.ld 5 3 (.t 4)),
 .o (.bin 6 .shl 55 (.c (.u64 1)) (.t 5)),
 .o (.mv 2 (.t 6)),
 .ret]
theorem cc49 : Tryd.f49.body.map cc = some c49 := by kernel_rfl
theorem rs49 : Tryd.f49.results.toList.map cRS = [.t 2] := by kernel_rfl
-- FN 50 (livery/lms.key).comes ntmps 47 params #[53, 22, 24, 24]
def c50 : List C := [.o (.bx 4 53 (.t 0)),
 .o (.mv 8 (.c .nils)),
 .o (.ld 11 53 (.t 4)),
 .o (.call 12 (.f 49) [(.t 11)]),
 .o (.mv 13 (.t 1)),
 .o (.cv 14 22 55 (.t 13)),
 .o (.bin 15 .add 55 (.t 12) (.t 14)),
 .o (.cv 16 55 22 (.t 15)),
 .o (.mv 9 (.t 16)),
 .blk 0 [.lp [.o (.mv 17 (.t 9)),
   .o (.bin 18 .gtr 22 (.t 17) (.c (.u32 1))),
   .ite (.t 18) []
    [.ex 0],
   .blk 1 [.o (.mv 21 (.t 3)),
    .o (.fa 22 53 (.t 4) 0),
    .o (.fa 23 41 (.t 22) 2),
    .o (.ld 24 3 (.t 23)),
    .o (.slc 25 24 (.t 21) none (some (.t 24)) none),
    .o (.mv 10 (.t 25)),
    .o (.mv 26 (.t 3)),
    .o (.fa 27 53 (.t 4) 0),
    .o (.fa 28 41 (.t 27) 2),
    .o (.ld 29 3 (.t 28)),
    .o (.slc 30 24 (.t 26) (some (.t 29)) none none),
    .o (.mv 3 (.t 30)),
    .o (.mv 31 (.t 9)),
    .o (.bin 32 .rem 22 (.t 31) (.c (.u32 2))),
    .o (.bin 33 .eql 22 (.t 32) (.c (.u32 0))),
    .ite (.t 33) [.o (.ld 34 53 (.t 4)),
     .o (.mv 35 (.t 9)),
     .o (.bin 36 .quo 22 (.t 35) (.c (.u32 2))),
     .o (.mv 37 (.t 2)),
     .o (.mv 38 (.t 10)),
     .o (.call 39 (.f 55) [(.t 34), (.t 36), (.t 37), (.t 38)]),
     .o (.mv 2 (.t 39))]
     [.o (.ld 40 53 (.t 4)),
     .o (.mv 41 (.t 9)),
     .o (.bin 42 .quo 22 (.t 41) (.c (.u32 2))),
     .o (.mv 43 (.t 10)),
     .o (.mv 44 (.t 2)),
     .o (.call 45 (.f 55) [(.t 40), (.t 42), (.t 43), (.t 44)]),
     .o (.mv 2 (.t 45))]],
   .o (.mv 19 (.t 9)),
   .o (.bin 20 .quo 22 (.t 19) (.c (.u32 2))),
   .o (.mv 9 (.t 20))]],
 .o (.mv 46 (.t 2)),
 .o (.mv 8 (.t 46)),
 .ret]
theorem cc50 : Tryd.f50.body.map cc = some c50 := by kernel_rfl
theorem rs50 : Tryd.f50.results.toList.map cRS = [.t 8] := by kernel_rfl
-- FN 51 (livery/lms.key).bottom ntmps 21 params #[53, 22, 24]
def c51 : List C := [.o (.bx 3 53 (.t 0)),
 .o (.mv 6 (.c .nils)),
 .dr true 13 [.ld 7 53 (.t 3), .fa 8 53 (.t 3) 2, .slc 9 23 (.t 8) none none none, .ld 10 53 (.t 3), .call 11 (.f 49) [(.t 10)], .mv 12 (.t 1), .cv 13 22 55 (.t 12), .bin 14 .add 55 (.t 11) (.t 13), .cv 15 55 22 (.t 14), .call 16 (.f 33) [(.t 15)], .call 17 (.f 62) [(.c (.u16 33410))], .mv 18 (.t 2), .bsl 19 61 4 [(0, (.t 9)), (1, (.t 16)), (2, (.t 17)), (3, (.t 18))], .call 20 (.f 75) [(.t 7), (.t 19)], .mv 6 (.t 20)],
 .ret]
theorem cc51 : Tryd.f51.body.map cc = some c51 := by kernel_rfl
theorem rs51 : Tryd.f51.results.toList.map cRS = [.t 6] := by kernel_rfl
-- FN 52 (*livery/lms.Tree).none ntmps 14 params #[51]
def c52 : List C := [.o (.mv 2 (.c (.b false))),
 .o (.mv 3 (.t 0)),
 .o (.bin 4 .eql 51 (.t 3) (.c .nilp)),
 .o (.mv 5 (.t 4)),
 .o (.gd 5 false (.mv 6 (.t 0))),
 .o (.gd 5 false (.nc 7 (.t 6))),
 .o (.gd 5 false (.fa 8 57 (.t 7) 0)),
 .o (.gd 5 false (.fa 9 53 (.t 8) 0)),
 .o (.gd 5 false (.fa 10 41 (.t 9) 2)),
 .o (.gd 5 false (.ld 11 3 (.t 10))),
 .o (.gd 5 false (.bin 12 .eql 3 (.t 11) (.c (.i 0)))),
 .o (.pick 13 (.t 5) (.c (.b true)) (.t 12)),
 .o (.mv 2 (.t 13)),
 .ret]
theorem cc52 : Tryd.f52.body.map cc = some c52 := by kernel_rfl
theorem rs52 : Tryd.f52.results.toList.map cRS = [.t 2] := by kernel_rfl
-- FN 53 (*livery/lms.Tree).All$1 ntmps 26 params #[95]
def c53 : List C := [.o (.ld 5 51 (.t 1)),
 .o (.call 6 (.f 52) [(.t 5)]),
 .ite (.t 6) [.ret]
  [],
 .o (.ld 7 51 (.t 1)),
 .o (.nc 8 (.t 7)),
 .o (.fa 9 57 (.t 8) 1),
 .o (.ld 10 54 (.t 9)),
 .o (.len 11 54 (.t 10)),
 .o (.mv 12 (.c (.i 0))),
 .blk 0 [.lp [.o (.bin 13 .lss 3 (.t 12) (.t 11)),
   .ite (.t 13) []
    [.ex 0],
   .blk 1 [.o (.ia 14 54 (.t 10) (.t 12)),
    .o (.ld 15 97 (.t 14)),
    .o (.al 4 97),
    .o (.st 97 (.t 4) (.t 15)),
    .dr true 7 [.mv 16 (.t 0), .fa 17 97 (.t 4) 0, .ld 18 3 (.t 17), .fa 19 97 (.t 4) 2, .ld 20 24 (.t 19), .bsl 21 61 1 [(0, (.t 20))], .call 22 (.f 32) [(.t 21)], .call 23 (.t 16) [(.t 18), (.t 22)], .un 24 .not (.t 23)],
    .ite (.t 24) [.ret]
     []],
   .o (.bin 25 .add 3 (.t 12) (.c (.i 1))),
   .o (.mv 12 (.t 25))]]]
theorem cc53 : Tryd.f53.body.map cc = some c53 := by kernel_rfl
theorem rs53 : Tryd.f53.results.toList.map cRS = [] := by kernel_rfl
-- FN 54 (livery/lms.key).leaf ntmps 26 params #[53, 22]
def c54 : List C := [.o (.bx 2 53 (.t 0)),
 .o (.mv 4 (.c .nils)),
 .o (.mv 5 (.c (.i 0))),
 .o (.fa 9 53 (.t 2) 1),
 .o (.ld 10 29 (.t 9)),
 .o (.fa 11 53 (.t 2) 2),
 .o (.ld 12 23 (.t 11)),
 .o (.mv 13 (.t 1)),
 .o (.fa 14 53 (.t 2) 3),
 .o (.ld 15 24 (.t 14)),
 .o (.call 16 (.f 11) [(.t 10), (.t 12), (.t 13), (.t 15)]),
 .o (.mv 8 (.t 16)),
 .o (.ext 17 (.t 8) 0),
 .o (.ext 18 (.t 8) 1),
 .o (.mv 6 (.t 17)),
 .o (.mv 7 (.t 18)),
 .o (.mv 19 (.t 7)),
 .o (.bin 20 .neq 31 (.t 19) (.c (.i 0))),
 .ite (.t 20) [.o (.mv 21 (.t 7)),
  .o (.mv 4 (.c .nils)),
  .o (.mv 5 (.t 21)),
  .ret]
  [],
 .o (.ld 22 53 (.t 2)),
 .o (.mv 23 (.t 1)),
 .o (.mv 24 (.t 6)),
 .o (.call 25 (.f 51) [(.t 22), (.t 23), (.t 24)]),
 .o (.mv 4 (.t 25)),
 .o (.mv 5 (.c (.i 0))),
 .ret]
theorem cc54 : Tryd.f54.body.map cc = some c54 := by kernel_rfl
theorem rs54 : Tryd.f54.results.toList.map cRS = [.t 4, .t 5] := by kernel_rfl
-- FN 55 (livery/lms.key).node ntmps 19 params #[53, 22, 24, 24]
def c55 : List C := [.o (.bx 4 53 (.t 0)),
 .o (.mv 8 (.c .nils)),
 .dr true 9 [.ld 9 53 (.t 4), .fa 10 53 (.t 4) 2, .slc 11 23 (.t 10) none none none, .mv 12 (.t 1), .call 13 (.f 33) [(.t 12)], .call 14 (.f 62) [(.c (.u16 33667))], .mv 15 (.t 2), .mv 16 (.t 3), .bsl 17 61 5 [(0, (.t 11)), (1, (.t 13)), (2, (.t 14)), (3, (.t 15)), (4, (.t 16))], .call 18 (.f 75) [(.t 9), (.t 17)], .mv 8 (.t 18)],
 .ret]
theorem cc55 : Tryd.f55.body.map cc = some c55 := by kernel_rfl
theorem rs55 : Tryd.f55.results.toList.map cRS = [.t 8] := by kernel_rfl
-- FN 68 livery/lms.made ntmps 28 params #[41, 29, 23, 24]
def c68 : List C := [.o (.bx 4 41 (.t 0)),
 .o (.bx 5 29 (.t 1)),
 .o (.bx 6 23 (.t 2)),
 .o (.al 8 53),
 .o (.mv 9 (.c (.i 0))),
 .o (.ld 10 41 (.t 4)),
 .o (.ld 11 29 (.t 5)),
 .o (.call 12 (.f 73) [(.t 10), (.t 11)]),
 .o (.un 13 .not (.t 12)),
 .ite (.t 13) [.o (.bld 14 53 []),
  .o (.st 53 (.t 8) (.t 14)),
  .o (.mv 9 (.c (.i 60))),
  .ret]
  [],
 .o (.mv 15 (.t 3)),
 .o (.len 16 24 (.t 15)),
 .o (.fa 17 41 (.t 4) 2),
 .o (.ld 18 3 (.t 17)),
 .o (.bin 19 .neq 3 (.t 16) (.t 18)),
 .ite (.t 19) [.o (.bld 20 53 []),
  .o (.st 53 (.t 8) (.t 20)),
  .o (.mv 9 (.c (.i 1))),
  .ret]
  [],
 .dr true 6 [.ld 21 41 (.t 4), .ld 22 29 (.t 5), .ld 23 23 (.t 6), .mv 24 (.t 3), .bsl 25 61 1 [(0, (.t 24))], .call 26 (.f 32) [(.t 25)], .bld 27 53 [(0, (.t 21)), (1, (.t 22)), (2, (.t 23)), (3, (.t 26))], .st 53 (.t 8) (.t 27), .mv 9 (.c (.i 0))],
 .ret]
theorem cc68 : Tryd.f68.body.map cc = some c68 := by kernel_rfl
theorem rs68 : Tryd.f68.results.toList.map cRS = [.c 8 53, .t 9] := by kernel_rfl
-- FN 69 (livery/lms.key).below ntmps 58 params #[53, 3, 22]
def c69 : List C := [.o (.bx 3 53 (.t 0)),
 .o (.mv 6 (.c .nils)),
 .o (.mv 7 (.c (.i 0))),
 .o (.mv 12 (.t 1)),
 .o (.bin 13 .eql 3 (.t 12) (.c (.i 0))),
 .ite (.t 13) [.o (.ld 14 53 (.t 3)),
  .o (.mv 15 (.t 2)),
  .o (.call 16 (.f 54) [(.t 14), (.t 15)]),
  .o (.ext 17 (.t 16) 0),
  .o (.ext 18 (.t 16) 1),
  .o (.mv 6 (.t 17)),
  .o (.mv 7 (.t 18)),
  .ret]
  [],
 .o (.mv 19 (.t 1)),
 .o (.bin 20 .sub 3 (.t 19) (.c (.i 1))),
 .o (.bin 21 .shl 22 (.c (.u32 1)) (.t 20)),
 .o (.mv 8 (.t 21)),
 .o (.ld 23 53 (.t 3)),
 .o (.mv 24 (.t 1)),
 .o (.bin 25 .sub 3 (.t 24) (.c (.i 1))),
 .o (.mv 26 (.t 2)),
 .o (.call 27 (.f 69) [(.t 23), (.t 25), (.t 26)]),
 .o (.mv 22 (.t 27)),
 .o (.ext 28 (.t 22) 0),
 .o (.ext 29 (.t 22) 1),
 .o (.mv 9 (.t 28)),
 .o (.mv 10 (.t 29)),
 .o (.mv 30 (.t 10)),
 .o (.bin 31 .neq 31 (.t 30) (.c (.i 0))),
 .ite (.t 31) [.o (.mv 32 (.t 10)),
  .o (.mv 6 (.c .nils)),
  .o (.mv 7 (.t 32)),
  .ret]
  [],
 .o (.ld 34 53 (.t 3)),
 .o (.mv 35 (.t 1)),
 .o (.bin 36 .sub 3 (.t 35) (.c (.i 1))),
 .o (.mv 37 (.t 2)),
 .o (.mv 38 (.t 8)),
 .o (.bin 39 .add 22 (.t 37) (.t 38)),
 .o (.call 40 (.f 69) [(.t 34), (.t 36), (.t 39)]),
 .o (.mv 33 (.t 40)),
 .o (.ext 41 (.t 33) 0),
 .o (.ext 42 (.t 33) 1),
 .o (.mv 11 (.t 41)),
 .o (.mv 10 (.t 42)),
 .o (.mv 43 (.t 10)),
 .o (.bin 44 .neq 31 (.t 43) (.c (.i 0))),
 .ite (.t 44) [.o (.mv 45 (.t 10)),
  .o (.mv 6 (.c .nils)),
  .o (.mv 7 (.t 45)),
  .ret]
  [],
 .dr true 11 [.ld 46 53 (.t 3), .ld 47 53 (.t 3), .call 48 (.f 49) [(.t 47)], .mv 49 (.t 2), .cv 50 22 55 (.t 49), .bin 51 .add 55 (.t 48) (.t 50), .mv 52 (.t 1), .bin 53 .shr 55 (.t 51) (.t 52), .cv 54 55 22 (.t 53), .mv 55 (.t 9), .mv 56 (.t 11), .call 57 (.f 55) [(.t 46), (.t 54), (.t 55), (.t 56)], .mv 6 (.t 57), .mv 7 (.c (.i 0))],
 .ret]
theorem cc69 : Tryd.f69.body.map cc = some c69 := by kernel_rfl
theorem rs69 : Tryd.f69.results.toList.map cRS = [.t 6, .t 7] := by kernel_rfl
-- FN 70 (livery/lms.key).grown ntmps 22 params #[53]
def c70 : List C := [.o (.bx 1 53 (.t 0)),
 .o (.mv 2 (.c .nilp)),
 .o (.mv 3 (.c (.i 0))),
 .o (.ld 6 53 (.t 1)),
 .o (.bld 7 57 [(0, (.t 6))]),
 .o (.bx 8 57 (.t 7)),
 .o (.mv 4 (.t 8)),
 .blk 0 [.lp [.dr true 6 [.mv 9 (.t 4), .nc 10 (.t 9), .fa 11 57 (.t 10) 2, .ld 12 55 (.t 11), .ld 13 53 (.t 1), .call 14 (.f 49) [(.t 13)], .bin 15 .lss 55 (.t 12) (.t 14)],
   .ite (.t 15) []
    [.ex 0],
   .blk 1 [.o (.mv 16 (.t 4)),
    .o (.call 17 (.f 24) [(.t 16)]),
    .o (.mv 5 (.t 17)),
    .o (.mv 18 (.t 5)),
    .o (.bin 19 .neq 31 (.t 18) (.c (.i 0))),
    .ite (.t 19) [.o (.mv 20 (.t 5)),
     .o (.mv 2 (.c .nilp)),
     .o (.mv 3 (.t 20)),
     .ret]
     []]]],
 .o (.mv 21 (.t 4)),
 .o (.mv 2 (.t 21)),
 .o (.mv 3 (.c (.i 0))),
 .ret]
theorem cc70 : Tryd.f70.body.map cc = some c70 := by kernel_rfl
theorem rs70 : Tryd.f70.results.toList.map cRS = [.t 2, .t 3] := by kernel_rfl
-- FN 75 (livery/lms.key).hash ntmps 9 params #[53, 61]
def c75 : List C := [.o (.bx 2 53 (.t 0)),
 .o (.mv 4 (.c .nils)),
 .o (.fa 5 53 (.t 2) 1),
 .o (.ld 6 29 (.t 5)),
 .o (.mv 7 (.t 1)),
 .o (.call 8 (.f 61) [(.t 6), (.t 7)]),
 .o (.mv 4 (.t 8)),
 .ret]
theorem cc75 : Tryd.f75.body.map cc = some c75 := by kernel_rfl
theorem rs75 : Tryd.f75.results.toList.map cRS = [.t 4] := by kernel_rfl
end Go.Lv

namespace Go.Lv
open Go Go.Proofs
set_option maxRecDepth 100000
-- FN 105 math/bits.RotateLeft64 ntmps 17 params #[55, 3]
def c105 : List C := [.o (.mv 4 (.c (.u64 0))),
 .o (.mv 6 (.t 1)),
 .o (.cv 7 3 123 (.t 6)),
 .o (.bin 8 .and 123 (.t 7) (.c (.u64 63))),
 .o (.mv 5 (.t 8)),
 .o (.mv 9 (.t 0)),
 .o (.mv 10 (.t 5)),
 .o (.bin 11 .shl 55 (.t 9) (.t 10)),
 .o (.mv 12 (.t 0)),
 .o (.mv 13 (.t 5)),
 .o (.bin 14 .sub 123 (.c (.u64 64)) (.t 13)),
 .o (.bin 15 .shr 55 (.t 12) (.t 14)),
 .o (.bin 16 .or 55 (.t 11) (.t 15)),
 .o (.mv 4 (.t 16)),
 .ret]
theorem cc105 : Tryd.f105.body.map cc = some c105 := by kernel_rfl
theorem rs105 : Tryd.f105.results.toList.map cRS = [.t 4] := by kernel_rfl
-- FN 106 math/bits.RotateLeft32 ntmps 17 params #[22, 3]
def c106 : List C := [.o (.mv 4 (.c (.u32 0))),
 .o (.mv 6 (.t 1)),
 .o (.cv 7 3 123 (.t 6)),
 .o (.bin 8 .and 123 (.t 7) (.c (.u64 31))),
 .o (.mv 5 (.t 8)),
 .o (.mv 9 (.t 0)),
 .o (.mv 10 (.t 5)),
 .o (.bin 11 .shl 22 (.t 9) (.t 10)),
 .o (.mv 12 (.t 0)),
 .o (.mv 13 (.t 5)),
 .o (.bin 14 .sub 123 (.c (.u64 32)) (.t 13)),
 .o (.bin 15 .shr 22 (.t 12) (.t 14)),
 .o (.bin 16 .or 22 (.t 11) (.t 15)),
 .o (.mv 4 (.t 16)),
 .ret]
theorem cc106 : Tryd.f106.body.map cc = some c106 := by kernel_rfl
theorem rs106 : Tryd.f106.results.toList.map cRS = [.t 4] := by kernel_rfl
end Go.Lv

namespace Go.Lv
open Go Go.Proofs
set_option maxRecDepth 100000
-- FN 32 livery/octet.Join ntmps 33 params #[61]
def c32 : List C := [.o (.mv 2 (.c .nils)),
 .o (.mv 3 (.c (.i 0))),
 .o (.mv 9 (.t 0)),
 .o (.len 10 61 (.t 9)),
 .o (.mv 11 (.c (.i 0))),
 .blk 0 [.lp [.o (.bin 12 .lss 3 (.t 11) (.t 10)),
   .ite (.t 12) []
    [.ex 0],
   .blk 1 [.o (.ia 13 61 (.t 9) (.t 11)),
    .o (.ld 14 24 (.t 13)),
    .o (.mv 5 (.t 14)),
    .o (.mv 15 (.t 3)),
    .o (.mv 16 (.t 5)),
    .o (.len 17 24 (.t 16)),
    .o (.bin 18 .add 3 (.t 15) (.t 17)),
    .o (.mv 3 (.t 18))],
   .o (.bin 19 .add 3 (.t 11) (.c (.i 1))),
   .o (.mv 11 (.t 19))]],
 .o (.mv 20 (.t 3)),
 .o (.msl 21 24 (.c (.i 0)) (.t 20)),
 .o (.mv 6 (.t 21)),
 .o (.mv 22 (.t 0)),
 .o (.len 23 61 (.t 22)),
 .o (.mv 24 (.c (.i 0))),
 .blk 2 [.lp [.o (.bin 25 .lss 3 (.t 24) (.t 23)),
   .ite (.t 25) []
    [.ex 2],
   .blk 3 [.o (.ia 26 61 (.t 22) (.t 24)),
    .o (.ld 27 24 (.t 26)),
    .o (.mv 8 (.t 27)),
    .o (.mv 28 (.t 6)),
    .o (.mv 29 (.t 8)),
    .o (.app 30 24 24 (.t 28) (.t 29)),
    .o (.mv 6 (.t 30))],
   .o (.bin 31 .add 3 (.t 24) (.c (.i 1))),
   .o (.mv 24 (.t 31))]],
 .o (.mv 32 (.t 6)),
 .o (.mv 2 (.t 32)),
 .ret]
theorem cc32 : Tryd.f32.body.map cc = some c32 := by kernel_rfl
theorem rs32 : Tryd.f32.results.toList.map cRS = [.t 2] := by kernel_rfl
-- FN 33 livery/octet.U32 ntmps 6 params #[22]
def c33 : List C := [.o (.mv 2 (.c .nils)),
 .o (.mv 3 (.t 0)),
 .o (.cv 4 22 55 (.t 3)),
 .o (.call 5 (.f 63) [(.t 4), (.c (.i 4))]),
 .o (.mv 2 (.t 5)),
 .ret]
theorem cc33 : Tryd.f33.body.map cc = some c33 := by kernel_rfl
theorem rs33 : Tryd.f33.results.toList.map cRS = [.t 2] := by kernel_rfl
-- FN 40 livery/octet.Same ntmps 31 params #[24, 24]
def c40 : List C := [.o (.mv 4 (.c (.b false))),
 .o (.mv 7 (.t 0)),
 .o (.len 8 24 (.t 7)),
 .o (.mv 9 (.t 1)),
 .o (.len 10 24 (.t 9)),
 .o (.bin 11 .neq 3 (.t 8) (.t 10)),
 .ite (.t 11) [.o (.mv 4 (.c (.b false))),
  .ret]
  [],
 .o (.mv 5 (.c (.u8 0))),
 .o (.mv 12 (.t 0)),
 .o (.len 13 24 (.t 12)),
 .o (.mv 14 (.c (.i 0))),
 .blk 0 [.lp [.o (.bin 15 .lss 3 (.t 14) (.t 13)),
   .ite (.t 15) []
    [.ex 0],
   .blk 1 [.o (.mv 16 (.t 14)),
    .o (.mv 6 (.t 16)),
    .dr true 10 [.mv 17 (.t 5), .mv 18 (.t 0), .mv 19 (.t 6), .ia 20 24 (.t 18) (.t 19), .ld 21 5 (.t 20), .mv 22 (.t 1), .mv 23 (.t 6), .ia 24 24 (.t 22) (.t 23), .ld 25 5 (.t 24), .bin 26 .xor 5 (.t 21) (.t 25), .bin 27 .or 5 (.t 17) (.t 26), .mv 5 (.t 27)]],
   .o (.bin 28 .add 3 (.t 14) (.c (.i 1))),
   .o (.mv 14 (.t 28))]],
 .o (.mv 29 (.t 5)),
 .o (.bin 30 .eql 5 (.t 29) (.c (.u8 0))),
 .o (.mv 4 (.t 30)),
 .ret]
theorem cc40 : Tryd.f40.body.map cc = some c40 := by kernel_rfl
theorem rs40 : Tryd.f40.results.toList.map cRS = [.t 4] := by kernel_rfl
-- FN 62 livery/octet.U16 ntmps 6 params #[103]
def c62 : List C := [.o (.mv 2 (.c .nils)),
 .o (.mv 3 (.t 0)),
 .o (.cv 4 103 55 (.t 3)),
 .o (.call 5 (.f 63) [(.t 4), (.c (.i 2))]),
 .o (.mv 2 (.t 5)),
 .ret]
theorem cc62 : Tryd.f62.body.map cc = some c62 := by kernel_rfl
theorem rs62 : Tryd.f62.results.toList.map cRS = [.t 2] := by kernel_rfl
-- FN 63 livery/octet.big ntmps 27 params #[55, 3]
def c63 : List C := [.o (.mv 4 (.c .nils)),
 .o (.mv 7 (.t 1)),
 .o (.msl 8 24 (.t 7) (.t 7)),
 .o (.mv 5 (.t 8)),
 .o (.mv 9 (.t 5)),
 .o (.len 10 24 (.t 9)),
 .o (.mv 11 (.c (.i 0))),
 .blk 0 [.lp [.o (.bin 12 .lss 3 (.t 11) (.t 10)),
   .ite (.t 12) []
    [.ex 0],
   .blk 1 [.o (.mv 13 (.t 11)),
    .o (.mv 6 (.t 13)),
    .o (.mv 14 (.t 5)),
    .o (.mv 15 (.t 1)),
    .o (.bin 16 .sub 3 (.t 15) (.c (.i 1))),
    .o (.mv 17 (.t 6)),
    .o (.bin 18 .sub 3 (.t 16) (.t 17)),
    .o (.mv 19 (.t 0)),
    .o (.mv 20 (.t 6)),
    .o (.bin 21 .mul 3 (.c (.i 8)) (.t 20)),
    .o (.bin 22 .shr 55 (.t 19) (.t 21)),
    .o (.cv 23 55 5 (.t 22)),
    .o (.ia 24 24 (.t 14) (.t 18)),
    .o (.st 5 (.t 24) (.t 23))],
   .o (.bin 25 .add 3 (.t 11) (.c (.i 1))),
   .o (.mv 11 (.t 25))]],
 .o (.mv 26 (.t 5)),
 .o (.mv 4 (.t 26)),
 .ret]
theorem cc63 : Tryd.f63.body.map cc = some c63 := by kernel_rfl
theorem rs63 : Tryd.f63.results.toList.map cRS = [.t 4] := by kernel_rfl
-- FN 71 livery/octet.BigOf ntmps 28 params #[24]
def c71 : List C := [.o (.mv 2 (.c (.u64 0))),
 .o (.mv 3 (.c (.i 0))),
 .o (.mv 7 (.t 0)),
 .o (.len 8 24 (.t 7)),
 .o (.bin 9 .lss 3 (.t 8) (.c (.i 1))),
 .o (.mv 10 (.t 9)),
 .o (.gd 10 false (.mv 11 (.t 0))),
 .o (.gd 10 false (.len 12 24 (.t 11))),
 .o (.gd 10 false (.bin 13 .gtr 3 (.t 12) (.c (.i 8)))),
 .o (.pick 14 (.t 10) (.c (.b true)) (.t 13)),
 .ite (.t 14) [.o (.mv 2 (.c (.u64 0))),
  .o (.mv 3 (.c (.i 1))),
  .ret]
  [],
 .o (.mv 4 (.c (.u64 0))),
 .o (.mv 15 (.t 0)),
 .o (.len 16 24 (.t 15)),
 .o (.mv 17 (.c (.i 0))),
 .blk 0 [.lp [.o (.bin 18 .lss 3 (.t 17) (.t 16)),
   .ite (.t 18) []
    [.ex 0],
   .blk 1 [.o (.ia 19 24 (.t 15) (.t 17)),
    .o (.ld 20 5 (.t 19)),
    .o (.mv 6 (.t 20)),
    .o (.mv 21 (.t 4)),
    .o (.bin 22 .shl 55 (.t 21) (.c (.u64 8))),
    .o (.mv 23 (.t 6)),
    .o (.cv 24 5 55 (.t 23)),
    .o (.bin 25 .or 55 (.t 22) (.t 24)),
    .o (.mv 4 (.t 25))],
   .o (.bin 26 .add 3 (.t 17) (.c (.i 1))),
   .o (.mv 17 (.t 26))]],
 .o (.mv 27 (.t 4)),
 .o (.mv 2 (.t 27)),
 .o (.mv 3 (.c (.i 0))),
 .ret]
theorem cc71 : Tryd.f71.body.map cc = some c71 := by kernel_rfl
theorem rs71 : Tryd.f71.results.toList.map cRS = [.t 2, .t 3] := by kernel_rfl
-- FN 95 livery/octet.U64 ntmps 5 params #[55]
def c95 : List C := [.o (.mv 2 (.c .nils)),
 .o (.mv 3 (.t 0)),
 .o (.call 4 (.f 63) [(.t 3), (.c (.i 8))]),
 .o (.mv 2 (.t 4)),
 .ret]
theorem cc95 : Tryd.f95.body.map cc = some c95 := by kernel_rfl
theorem rs95 : Tryd.f95.results.toList.map cRS = [.t 2] := by kernel_rfl
end Go.Lv

namespace Go.Lv
open Go Go.Proofs
set_option maxRecDepth 100000
-- FN 39 livery/param.OtsLen ntmps 13 params #[29]
def c39 : List C := [.o (.bx 1 29 (.t 0)),
 .o (.mv 2 (.c (.i 0))),
 .o (.ld 3 29 (.t 1)),
 .o (.call 4 (.f 65) [(.t 3)]),
 .o (.un 5 .not (.t 4)),
 .ite (.t 5) [.o (.mv 2 (.c (.i 0))),
  .ret]
  [],
 .o (.fa 6 29 (.t 1) 2),
 .o (.ld 7 3 (.t 6)),
 .o (.fa 8 29 (.t 1) 4),
 .o (.ld 9 3 (.t 8)),
 .o (.bin 10 .add 3 (.t 9) (.c (.i 1))),
 .o (.bin 11 .mul 3 (.t 7) (.t 10)),
 .o (.bin 12 .add 3 (.c (.i 4)) (.t 11)),
 .o (.mv 2 (.t 12)),
 .ret]
theorem cc39 : Tryd.f39.body.map cc = some c39 := by kernel_rfl
theorem rs39 : Tryd.f39.results.toList.map cRS = [.t 2] := by kernel_rfl
-- FN 48 livery/param.LmsLen ntmps 19 params #[41, 29]
def c48 : List C := [.o (.bx 2 41 (.t 0)),
 .o (.bx 3 29 (.t 1)),
 .o (.mv 4 (.c (.i 0))),
 .o (.ld 5 41 (.t 2)),
 .o (.ld 6 29 (.t 3)),
 .o (.call 7 (.f 73) [(.t 5), (.t 6)]),
 .o (.un 8 .not (.t 7)),
 .ite (.t 8) [.o (.mv 4 (.c (.i 0))),
  .ret]
  [],
 .dr true 9 [.ld 9 29 (.t 3), .call 10 (.f 39) [(.t 9)], .bin 11 .add 3 (.c (.i 4)) (.t 10), .bin 12 .add 3 (.t 11) (.c (.i 4)), .fa 13 41 (.t 2) 3, .ld 14 3 (.t 13), .fa 15 41 (.t 2) 2, .ld 16 3 (.t 15), .bin 17 .mul 3 (.t 14) (.t 16), .bin 18 .add 3 (.t 12) (.t 17), .mv 4 (.t 18)],
 .ret]
theorem cc48 : Tryd.f48.body.map cc = some c48 := by kernel_rfl
theorem rs48 : Tryd.f48.results.toList.map cRS = [.t 4] := by kernel_rfl
-- FN 64 livery/param.Ots ntmps 58 params #[22]
def c64 : List C := [.o (.al 2 29),
 .o (.mv 3 (.c (.i 0))),
 .o (.mv 10 (.t 0)),
 .o (.bin 11 .lss 22 (.t 10) (.c (.u32 1))),
 .o (.mv 12 (.t 11)),
 .o (.gd 12 false (.mv 13 (.t 0))),
 .o (.gd 12 false (.bin 14 .gtr 22 (.t 13) (.c (.u32 16)))),
 .o (.pick 15 (.t 12) (.c (.b true)) (.t 14)),
 .ite (.t 15) [.o (.bld 16 29 []),
  .o (.st 29 (.t 2) (.t 16)),
  .o (.mv 3 (.c (.i 60))),
  .ret]
  [],
 .o (.mv 18 (.t 0)),
 .o (.bin 19 .sub 22 (.t 18) (.c (.u32 1))),
 .o (.cv 20 22 3 (.t 19)),
 .o (.bin 21 .quo 3 (.t 20) (.c (.i 4))),
 .o (.call 22 (.f 79) [(.t 21)]),
 .o (.mv 17 (.t 22)),
 .o (.ext 23 (.t 17) 0),
 .o (.ext 24 (.t 17) 1),
 .o (.mv 4 (.t 23)),
 .o (.mv 5 (.t 24)),
 .o (.mv 25 (.t 0)),
 .o (.bin 26 .sub 22 (.t 25) (.c (.u32 1))),
 .o (.bin 27 .rem 22 (.t 26) (.c (.u32 4))),
 .o (.bin 28 .shl 3 (.c (.i 1)) (.t 27)),
 .o (.mv 6 (.t 28)),
 .o (.mv 29 (.t 5)),
 .o (.bin 30 .mul 3 (.c (.i 8)) (.t 29)),
 .o (.mv 31 (.t 6)),
 .o (.bin 32 .quo 3 (.t 30) (.t 31)),
 .o (.mv 7 (.t 32)),
 .o (.mv 8 (.c (.i 1))),
 .o (.mv 33 (.t 6)),
 .o (.bin 34 .shl 3 (.c (.i 1)) (.t 33)),
 .o (.bin 35 .sub 3 (.t 34) (.c (.i 1))),
 .o (.mv 36 (.t 7)),
 .o (.bin 37 .mul 3 (.t 35) (.t 36)),
 .o (.mv 9 (.t 37)),
 .blk 0 [.lp [.o (.mv 38 (.t 9)),
   .o (.mv 39 (.t 8)),
   .o (.mv 40 (.t 6)),
   .o (.bin 41 .mul 3 (.t 39) (.t 40)),
   .o (.bin 42 .shr 3 (.t 38) (.t 41)),
   .o (.bin 43 .gtr 3 (.t 42) (.c (.i 0))),
   .ite (.t 43) []
    [.ex 0],
   .blk 1 [.o (.mv 44 (.t 8)),
    .o (.bin 45 .add 3 (.t 44) (.c (.i 1))),
    .o (.mv 8 (.t 45))]]],
 .o (.mv 46 (.t 0)),
 .o (.mv 47 (.t 4)),
 .o (.mv 48 (.t 5)),
 .o (.mv 49 (.t 6)),
 .o (.mv 50 (.t 7)),
 .o (.mv 51 (.t 8)),
 .o (.bin 52 .add 3 (.t 50) (.t 51)),
 .o (.mv 53 (.t 8)),
 .o (.mv 54 (.t 6)),
 .o (.bin 55 .mul 3 (.t 53) (.t 54)),
 .o (.bin 56 .sub 3 (.c (.i 16)) (.t 55)),
 .o (.bld 57 29 [(0, (.t 46)), (1, (.t 47)), (2, (.t 48)), (3, (.t 49)), (4, (.t 52)), (5, (.t 56))]),
 .o (.st 29 (.t 2) (.t 57)),
 .o (.mv 3 (.c (.i 0))),
 .ret]
theorem cc64 : Tryd.f64.body.map cc = some c64 := by kernel_rfl
theorem rs64 : Tryd.f64.results.toList.map cRS = [.c 2 29, .t 3] := by kernel_rfl
-- FN 65 livery/param.isOts ntmps 18 params #[29]
def c65 : List C := [.o (.bx 1 29 (.t 0)),
 .o (.mv 2 (.c (.b false))),
 .o (.fa 6 29 (.t 1) 0),
 .o (.ld 7 22 (.t 6)),
 .o (.call 8 (.f 64) [(.t 7)]),
 .o (.mv 5 (.t 8)),
 .o (.ext 9 (.t 5) 0),
 .o (.ext 10 (.t 5) 1),
 .o (.al 3 29),
 .o (.st 29 (.t 3) (.t 9)),
 .o (.mv 4 (.t 10)),
 .o (.mv 11 (.t 4)),
 .o (.bin 12 .eql 31 (.t 11) (.c (.i 0))),
 .o (.mv 13 (.t 12)),
 .o (.gd 13 true (.ld 14 29 (.t 3))),
 .o (.gd 13 true (.ld 15 29 (.t 1))),
 .o (.gd 13 true (.bin 16 .eql 29 (.t 14) (.t 15))),
 .o (.pick 17 (.t 13) (.t 16) (.c (.b false))),
 .o (.mv 2 (.t 17)),
 .ret]
theorem cc65 : Tryd.f65.body.map cc = some c65 := by kernel_rfl
theorem rs65 : Tryd.f65.results.toList.map cRS = [.t 2] := by kernel_rfl
-- FN 72 livery/param.Lms ntmps 44 params #[22]
def c72 : List C := [.o (.al 2 41),
 .o (.mv 3 (.c (.i 0))),
 .o (.mv 11 (.t 0)),
 .o (.call 12 (.f 81) [(.t 11), (.c (.u32 4026531840))]),
 .o (.mv 10 (.t 12)),
 .o (.ext 13 (.t 10) 0),
 .o (.ext 14 (.t 10) 1),
 .o (.ext 15 (.t 10) 2),
 .o (.mv 4 (.t 13)),
 .o (.mv 5 (.t 14)),
 .o (.mv 6 (.t 15)),
 .o (.mv 16 (.t 0)),
 .o (.bin 17 .geq 22 (.t 16) (.c (.u32 5))),
 .o (.mv 18 (.t 17)),
 .o (.gd 18 true (.mv 19 (.t 0))),
 .o (.gd 18 true (.bin 20 .leq 22 (.t 19) (.c (.u32 24)))),
 .o (.pick 21 (.t 18) (.t 20) (.c (.b false))),
 .ite (.t 21) [.o (.mv 22 (.t 0)),
  .o (.bin 23 .sub 22 (.t 22) (.c (.u32 5))),
  .o (.cv 24 22 3 (.t 23)),
  .o (.mv 7 (.t 24)),
  .o (.mv 25 (.t 7)),
  .o (.bin 26 .quo 3 (.t 25) (.c (.i 5))),
  .o (.mv 27 (.t 7)),
  .o (.bin 28 .rem 3 (.t 27) (.c (.i 5))),
  .o (.bin 29 .add 3 (.t 28) (.c (.i 1))),
  .o (.bin 30 .mul 3 (.c (.i 5)) (.t 29)),
  .o (.mv 4 (.t 26)),
  .o (.mv 5 (.t 30)),
  .o (.mv 6 (.c (.b true)))]
  [],
 .o (.mv 31 (.t 6)),
 .o (.un 32 .not (.t 31)),
 .ite (.t 32) [.o (.bld 33 41 []),
  .o (.st 41 (.t 2) (.t 33)),
  .o (.mv 3 (.c (.i 60))),
  .ret]
  [],
 .o (.mv 35 (.t 4)),
 .o (.call 36 (.f 79) [(.t 35)]),
 .o (.mv 34 (.t 36)),
 .o (.ext 37 (.t 34) 0),
 .o (.ext 38 (.t 34) 1),
 .o (.mv 8 (.t 37)),
 .o (.mv 9 (.t 38)),
 .o (.mv 39 (.t 0)),
 .o (.mv 40 (.t 8)),
 .o (.mv 41 (.t 9)),
 .o (.mv 42 (.t 5)),
 .o (.bld 43 41 [(0, (.t 39)), (1, (.t 40)), (2, (.t 41)), (3, (.t 42))]),
 .o (.st 41 (.t 2) (.t 43)),
 .o (.mv 3 (.c (.i 0))),
 .ret]
theorem cc72 : Tryd.f72.body.map cc = some c72 := by kernel_rfl
theorem rs72 : Tryd.f72.results.toList.map cRS = [.c 2 41, .t 3] := by kernel_rfl
-- FN 73 livery/param.Fit ntmps 25 params #[41, 29]
def c73 : List C := [.o (.bx 2 41 (.t 0)),
 .o (.bx 3 29 (.t 1)),
 .o (.mv 4 (.c (.b false))),
 .o (.ld 5 41 (.t 2)),
 .o (.call 6 (.f 82) [(.t 5)]),
 .o (.mv 7 (.t 6)),
 .o (.gd 7 true (.ld 8 29 (.t 3))),
 .o (.gd 7 true (.call 9 (.f 65) [(.t 8)])),
 .o (.pick 10 (.t 7) (.t 9) (.c (.b false))),
 .o (.mv 11 (.t 10)),
 .o (.gd 11 true (.fa 12 41 (.t 2) 1)),
 .o (.gd 11 true (.ld 13 4 (.t 12))),
 .o (.gd 11 true (.fa 14 29 (.t 3) 1)),
 .o (.gd 11 true (.ld 15 4 (.t 14))),
 .o (.gd 11 true (.bin 16 .eql 4 (.t 13) (.t 15))),
 .o (.pick 17 (.t 11) (.t 16) (.c (.b false))),
 .o (.mv 18 (.t 17)),
 .o (.gd 18 true (.fa 19 41 (.t 2) 2)),
 .o (.gd 18 true (.ld 20 3 (.t 19))),
 .o (.gd 18 true (.fa 21 29 (.t 3) 2)),
 .o (.gd 18 true (.ld 22 3 (.t 21))),
 .o (.gd 18 true (.bin 23 .eql 3 (.t 20) (.t 22))),
 .o (.pick 24 (.t 18) (.t 23) (.c (.b false))),
 .o (.mv 4 (.t 24)),
 .ret]
theorem cc73 : Tryd.f73.body.map cc = some c73 := by kernel_rfl
theorem rs73 : Tryd.f73.results.toList.map cRS = [.t 4] := by kernel_rfl
-- FN 74 livery/param.LmsPub ntmps 9 params #[41]
def c74 : List C := [.o (.bx 1 41 (.t 0)),
 .o (.mv 2 (.c (.i 0))),
 .o (.ld 3 41 (.t 1)),
 .o (.call 4 (.f 82) [(.t 3)]),
 .o (.un 5 .not (.t 4)),
 .ite (.t 5) [.o (.mv 2 (.c (.i 0))),
  .ret]
  [],
 .o (.fa 6 41 (.t 1) 2),
 .o (.ld 7 3 (.t 6)),
 .o (.bin 8 .add 3 (.c (.i 24)) (.t 7)),
 .o (.mv 2 (.t 8)),
 .ret]
theorem cc74 : Tryd.f74.body.map cc = some c74 := by kernel_rfl
theorem rs74 : Tryd.f74.results.toList.map cRS = [.t 2] := by kernel_rfl
-- FN 79 livery/param.hashed ntmps 13 params #[3]
def c79 : List C := [.o (.mv 2 (.c (.b false))),
 .o (.mv 3 (.c (.i 0))),
 .o (.mv 3 (.c (.i 32))),
 .o (.mv 4 (.t 0)),
 .blk 0 [.blk 3 [.blk 2 [.blk 1 [.o (.bin 6 .eql 3 (.t 4) (.c (.i 3))),
     .o (.mv 5 (.t 6)),
     .ite (.t 5) [.ex 1]
      [],
     .o (.bin 8 .eql 3 (.t 4) (.c (.i 2))),
     .o (.mv 7 (.t 8)),
     .ite (.t 7) [.ex 2]
      [],
     .o (.bin 10 .eql 3 (.t 4) (.c (.i 1))),
     .o (.mv 9 (.t 10)),
     .ite (.t 9) [.ex 3]
      [],
     .ex 0],
    .o (.mv 3 (.c (.i 24)))],
   .o (.mv 2 (.c (.b true))),
   .ex 0],
  .o (.mv 3 (.c (.i 24))),
  .ex 0],
 .o (.mv 11 (.t 2)),
 .o (.mv 12 (.t 3)),
 .o (.mv 2 (.t 11)),
 .o (.mv 3 (.t 12)),
 .ret]
theorem cc79 : Tryd.f79.body.map cc = some c79 := by kernel_rfl
theorem rs79 : Tryd.f79.results.toList.map cRS = [.t 2, .t 3] := by kernel_rfl
-- FN 81 livery/param.own ntmps 33 params #[22, 22]
def c81 : List C := [.o (.mv 4 (.c (.i 0))),
 .o (.mv 5 (.c (.i 0))),
 .o (.mv 6 (.c (.b false))),
 .o (.mv 9 (.t 0)),
 .o (.mv 10 (.t 1)),
 .o (.bin 11 .lss 22 (.t 9) (.t 10)),
 .o (.mv 12 (.t 11)),
 .o (.gd 12 false (.mv 13 (.t 0))),
 .o (.gd 12 false (.mv 14 (.t 1))),
 .o (.gd 12 false (.bin 15 .add 22 (.t 14) (.c (.u32 64)))),
 .o (.gd 12 false (.bin 16 .geq 22 (.t 13) (.t 15))),
 .o (.pick 17 (.t 12) (.c (.b true)) (.t 16)),
 .ite (.t 17) [.o (.mv 4 (.c (.i 0))),
  .o (.mv 5 (.c (.i 0))),
  .o (.mv 6 (.c (.b false))),
  .ret]
  [],
 .o (.mv 18 (.t 0)),
 .o (.mv 19 (.t 1)),
 .o (.bin 20 .sub 22 (.t 18) (.t 19)),
 .o (.cv 21 22 3 (.t 20)),
 .o (.mv 7 (.t 21)),
 .o (.mv 22 (.t 7)),
 .o (.bin 23 .rem 3 (.t 22) (.c (.i 16))),
 .o (.mv 8 (.t 23)),
 .o (.mv 24 (.t 7)),
 .o (.bin 25 .quo 3 (.t 24) (.c (.i 16))),
 .o (.mv 26 (.t 8)),
 .o (.mv 27 (.t 8)),
 .o (.bin 28 .geq 3 (.t 27) (.c (.i 1))),
 .o (.mv 29 (.t 28)),
 .o (.gd 29 true (.mv 30 (.t 8))),
 .o (.gd 29 true (.bin 31 .leq 3 (.t 30) (.c (.i 4)))),
 .o (.pick 32 (.t 29) (.t 31) (.c (.b false))),
 .o (.mv 4 (.t 25)),
 .o (.mv 5 (.t 26)),
 .o (.mv 6 (.t 32)),
 .ret]
theorem cc81 : Tryd.f81.body.map cc = some c81 := by kernel_rfl
theorem rs81 : Tryd.f81.results.toList.map cRS = [.t 4, .t 5, .t 6] := by kernel_rfl
-- FN 82 livery/param.isLms ntmps 18 params #[41]
def c82 : List C := [.o (.bx 1 41 (.t 0)),
 .o (.mv 2 (.c (.b false))),
 .o (.fa 6 41 (.t 1) 0),
 .o (.ld 7 22 (.t 6)),
 .o (.call 8 (.f 72) [(.t 7)]),
 .o (.mv 5 (.t 8)),
 .o (.ext 9 (.t 5) 0),
 .o (.ext 10 (.t 5) 1),
 .o (.al 3 41),
 .o (.st 41 (.t 3) (.t 9)),
 .o (.mv 4 (.t 10)),
 .o (.mv 11 (.t 4)),
 .o (.bin 12 .eql 31 (.t 11) (.c (.i 0))),
 .o (.mv 13 (.t 12)),
 .o (.gd 13 true (.ld 14 41 (.t 3))),
 .o (.gd 13 true (.ld 15 41 (.t 1))),
 .o (.gd 13 true (.bin 16 .eql 41 (.t 14) (.t 15))),
 .o (.pick 17 (.t 13) (.t 16) (.c (.b false))),
 .o (.mv 2 (.t 17)),
 .ret]
theorem cc82 : Tryd.f82.body.map cc = some c82 := by kernel_rfl
theorem rs82 : Tryd.f82.results.toList.map cRS = [.t 2] := by kernel_rfl
end Go.Lv

namespace Go.Lv
open Go Go.Proofs
set_option maxRecDepth 100000
-- FN 78 livery/sha2.Sum256 ntmps 10 params #[61]
def c78 : List C := [.o (.al 2 117),
 .o (.call 4 (.f 87) []),
 .o (.mv 3 (.t 4)),
 .o (.mv 5 (.t 3)),
 .o (.mv 6 (.t 0)),
 .o (.call 7 (.f 88) [(.t 5), (.t 6)]),
 .o (.mv 8 (.t 3)),
 .o (.call 9 (.f 89) [(.t 8)]),
 .o (.st 117 (.t 2) (.t 9)),
 .ret]
theorem cc78 : Tryd.f78.body.map cc = some c78 := by kernel_rfl
theorem rs78 : Tryd.f78.results.toList.map cRS = [.c 2 117] := by kernel_rfl
-- FN 87 livery/sha2.New ntmps 4 params #[]
def c87 : List C := [.o (.mv 0 (.c .nilp)),
 .o (.ld 1 139 (.g 0)),
 .o (.bld 2 142 [(0, (.c (.b true))), (1, (.t 1))]),
 .o (.bx 3 142 (.t 2)),
 .o (.mv 0 (.t 3)),
 .ret]
theorem cc87 : Tryd.f87.body.map cc = some c87 := by kernel_rfl
theorem rs87 : Tryd.f87.results.toList.map cRS = [.t 0] := by kernel_rfl
-- FN 88 (*livery/sha2.Hash).Write ntmps 19 params #[128, 61]
def c88 : List C := [.o (.mv 4 (.c (.i 0))),
 .o (.mv 7 (.t 0)),
 .o (.call 8 (.f 93) [(.t 7)]),
 .ite (.t 8) [.o (.mv 4 (.c (.i 2))),
  .ret]
  [],
 .o (.mv 9 (.t 1)),
 .o (.len 10 61 (.t 9)),
 .o (.mv 11 (.c (.i 0))),
 .blk 0 [.lp [.o (.bin 12 .lss 3 (.t 11) (.t 10)),
   .ite (.t 12) []
    [.ex 0],
   .blk 1 [.o (.ia 13 61 (.t 9) (.t 11)),
    .o (.ld 14 24 (.t 13)),
    .o (.mv 6 (.t 14)),
    .o (.mv 15 (.t 0)),
    .o (.mv 16 (.t 6)),
    .o (.call 17 (.f 94) [(.t 15), (.t 16)])],
   .o (.bin 18 .add 3 (.t 11) (.c (.i 1))),
   .o (.mv 11 (.t 18))]],
 .o (.mv 4 (.c (.i 0))),
 .ret]
theorem cc88 : Tryd.f88.body.map cc = some c88 := by kernel_rfl
theorem rs88 : Tryd.f88.results.toList.map cRS = [.t 4] := by kernel_rfl
-- FN 89 (*livery/sha2.Hash).Sum ntmps 44 params #[128]
def c89 : List C := [.o (.al 2 117),
 .o (.al 3 117),
 .o (.mv 8 (.t 0)),
 .o (.call 9 (.f 93) [(.t 8)]),
 .ite (.t 9) [.o (.ld 10 117 (.t 3)),
  .o (.st 117 (.t 2) (.t 10)),
  .ret]
  [],
 .o (.mv 11 (.t 0)),
 .o (.nc 12 (.t 11)),
 .o (.ld 13 142 (.t 12)),
 .o (.al 4 142),
 .o (.st 142 (.t 4) (.t 13)),
 .o (.mv 14 (.t 0)),
 .o (.nc 15 (.t 14)),
 .o (.fa 16 142 (.t 15) 4),
 .o (.ld 17 3 (.t 16)),
 .o (.cv 18 3 55 (.t 17)),
 .o (.bin 19 .mul 55 (.c (.u64 8)) (.t 18)),
 .o (.mv 5 (.t 19)),
 .o (.bsl 20 24 1 [(0, (.c (.u8 128)))]),
 .o (.call 21 (.f 94) [(.t 4), (.t 20)]),
 .blk 0 [.lp [.o (.fa 22 142 (.t 4) 3),
   .o (.ld 23 3 (.t 22)),
   .o (.bin 24 .neq 3 (.t 23) (.c (.i 56))),
   .ite (.t 24) []
    [.ex 0],
   .blk 1 [.o (.bsl 25 24 1 [(0, (.c (.u8 0)))]),
    .o (.call 26 (.f 94) [(.t 4), (.t 25)])]]],
 .o (.mv 27 (.t 5)),
 .o (.call 28 (.f 95) [(.t 27)]),
 .o (.call 29 (.f 94) [(.t 4), (.t 28)]),
 .o (.fa 30 142 (.t 4) 1),
 .o (.ld 31 139 (.t 30)),
 .o (.mv 32 (.c (.i 0))),
 .blk 2 [.lp [.o (.bin 33 .lss 3 (.t 32) (.c (.i 8))),
   .ite (.t 33) []
    [.ex 2],
   .blk 3 [.o (.mv 34 (.t 32)),
    .o (.ixv 35 139 (.t 31) (.t 32)),
    .o (.mv 6 (.t 34)),
    .o (.mv 7 (.t 35)),
    .dr true 5 [.mv 36 (.t 6), .bin 37 .mul 3 (.c (.i 4)) (.t 36), .slc 38 117 (.t 3) (some (.t 37)) none none, .mv 39 (.t 7), .call 40 (.f 33) [(.t 39)], .cpy 41 24 24 (.t 38) (.t 40)]],
   .o (.bin 42 .add 3 (.t 32) (.c (.i 1))),
   .o (.mv 32 (.t 42))]],
 .o (.ld 43 117 (.t 3)),
 .o (.st 117 (.t 2) (.t 43)),
 .ret]
theorem cc89 : Tryd.f89.body.map cc = some c89 := by kernel_rfl
theorem rs89 : Tryd.f89.results.toList.map cRS = [.c 2 117] := by kernel_rfl
-- FN 93 (*livery/sha2.Hash).none ntmps 12 params #[128]
def c93 : List C := [.o (.mv 2 (.c (.b false))),
 .o (.mv 3 (.t 0)),
 .o (.bin 4 .eql 128 (.t 3) (.c .nilp)),
 .o (.mv 5 (.t 4)),
 .o (.gd 5 false (.mv 6 (.t 0))),
 .o (.gd 5 false (.nc 7 (.t 6))),
 .o (.gd 5 false (.fa 8 142 (.t 7) 0)),
 .o (.gd 5 false (.ld 9 4 (.t 8))),
 .o (.gd 5 false (.un 10 .not (.t 9))),
 .o (.pick 11 (.t 5) (.c (.b true)) (.t 10)),
 .o (.mv 2 (.t 11)),
 .ret]
theorem cc93 : Tryd.f93.body.map cc = some c93 := by kernel_rfl
theorem rs93 : Tryd.f93.results.toList.map cRS = [.t 2] := by kernel_rfl
-- FN 94 (*livery/sha2.Hash).put ntmps 58 params #[128, 24]
def c94 : List C := [.o (.mv 5 (.t 0)),
 .o (.nc 6 (.t 5)),
 .o (.fa 7 142 (.t 6) 4),
 .o (.ld 8 3 (.t 7)),
 .o (.mv 9 (.t 1)),
 .o (.len 10 24 (.t 9)),
 .o (.bin 11 .add 3 (.t 8) (.t 10)),
 .o (.nc 12 (.t 5)),
 .o (.fa 13 142 (.t 12) 4),
 .o (.st 3 (.t 13) (.t 11)),
 .blk 0 [.lp [.o (.mv 14 (.t 1)),
   .o (.len 15 24 (.t 14)),
   .o (.bin 16 .gtr 3 (.t 15) (.c (.i 0))),
   .ite (.t 16) []
    [.ex 0],
   .blk 1 [.dr true 9 [.mv 17 (.t 0), .nc 18 (.t 17), .fa 19 142 (.t 18) 2, .mv 20 (.t 0), .nc 21 (.t 20), .fa 22 142 (.t 21) 3, .ld 23 3 (.t 22), .slc 24 140 (.t 19) (some (.t 23)) none none, .mv 25 (.t 1), .cpy 26 24 24 (.t 24) (.t 25), .mv 4 (.t 26)],
    .o (.mv 27 (.t 0)),
    .o (.nc 28 (.t 27)),
    .o (.fa 29 142 (.t 28) 3),
    .o (.ld 30 3 (.t 29)),
    .o (.mv 31 (.t 4)),
    .o (.bin 32 .add 3 (.t 30) (.t 31)),
    .o (.nc 33 (.t 27)),
    .o (.fa 34 142 (.t 33) 3),
    .o (.st 3 (.t 34) (.t 32)),
    .o (.mv 35 (.t 1)),
    .o (.mv 36 (.t 4)),
    .o (.slc 37 24 (.t 35) (some (.t 36)) none none),
    .o (.mv 1 (.t 37)),
    .o (.mv 38 (.t 0)),
    .o (.nc 39 (.t 38)),
    .o (.fa 40 142 (.t 39) 3),
    .o (.ld 41 3 (.t 40)),
    .o (.bin 42 .eql 3 (.t 41) (.c (.i 64))),
    .ite (.t 42) [.dr true 10 [.mv 43 (.t 0), .mv 44 (.t 0), .nc 45 (.t 44), .fa 46 142 (.t 45) 1, .ld 47 139 (.t 46), .mv 48 (.t 0), .nc 49 (.t 48), .fa 50 142 (.t 49) 2, .ld 51 140 (.t 50), .call 52 (.f 98) [(.t 47), (.t 51)], .nc 53 (.t 43), .fa 54 142 (.t 53) 1, .st 139 (.t 54) (.t 52)],
     .o (.mv 55 (.t 0)),
     .o (.nc 56 (.t 55)),
     .o (.fa 57 142 (.t 56) 3),
     .o (.st 3 (.t 57) (.c (.i 0)))]
     []]]]]
theorem cc94 : Tryd.f94.body.map cc = some c94 := by kernel_rfl
theorem rs94 : Tryd.f94.results.toList.map cRS = [] := by kernel_rfl
-- FN 98 livery/sha2.Compress ntmps 131 params #[139, 140]
def c98 : List C := [.o (.bx 2 139 (.t 0)),
 .o (.bx 3 140 (.t 1)),
 .o (.al 4 139),
 .o (.ld 17 140 (.t 3)),
 .o (.call 18 (.f 103) [(.t 17)]),
 .o (.al 5 155),
 .o (.st 155 (.t 5) (.t 18)),
 .dr true 23 [.ia 19 139 (.t 2) (.c (.i 0)), .ld 20 22 (.t 19), .ia 21 139 (.t 2) (.c (.i 1)), .ld 22 22 (.t 21), .ia 23 139 (.t 2) (.c (.i 2)), .ld 24 22 (.t 23), .ia 25 139 (.t 2) (.c (.i 3)), .ld 26 22 (.t 25), .ia 27 139 (.t 2) (.c (.i 4)), .ld 28 22 (.t 27), .ia 29 139 (.t 2) (.c (.i 5)), .ld 30 22 (.t 29), .ia 31 139 (.t 2) (.c (.i 6)), .ld 32 22 (.t 31), .ia 33 139 (.t 2) (.c (.i 7)), .ld 34 22 (.t 33), .mv 6 (.t 20), .mv 7 (.t 22), .mv 8 (.t 24), .mv 9 (.t 26), .mv 10 (.t 28), .mv 11 (.t 30), .mv 12 (.t 32), .mv 13 (.t 34)],
 .o (.mv 35 (.c (.i 0))),
 .blk 0 [.lp [.o (.bin 36 .lss 3 (.t 35) (.c (.i 64))),
   .ite (.t 36) []
    [.ex 0],
   .blk 1 [.o (.mv 37 (.t 35)),
    .o (.mv 14 (.t 37)),
    .dr true 26 [.mv 38 (.t 13), .mv 39 (.t 10), .call 40 (.f 104) [(.t 39), (.c (.i 6))], .mv 41 (.t 10), .call 42 (.f 104) [(.t 41), (.c (.i 11))], .bin 43 .xor 22 (.t 40) (.t 42), .mv 44 (.t 10), .call 45 (.f 104) [(.t 44), (.c (.i 25))], .bin 46 .xor 22 (.t 43) (.t 45), .bin 47 .add 22 (.t 38) (.t 46), .mv 48 (.t 10), .mv 49 (.t 11), .bin 50 .and 22 (.t 48) (.t 49), .mv 51 (.t 10), .un 52 .xor (.t 51), .mv 53 (.t 12), .bin 54 .and 22 (.t 52) (.t 53), .bin 55 .xor 22 (.t 50) (.t 54), .bin 56 .add 22 (.t 47) (.t 55), .mv 57 (.t 14), .ia 58 155 (.g 1) (.t 57), .ld 59 22 (.t 58), .bin 60 .add 22 (.t 56) (.t 59), .mv 61 (.t 14), .ia 62 155 (.t 5) (.t 61), .ld 63 22 (.t 62), .bin 64 .add 22 (.t 60) (.t 63), .mv 15 (.t 64)],
    .o (.mv 65 (.t 6)),
    .o (.call 66 (.f 104) [(.t 65), (.c (.i 2))]),
    .o (.mv 67 (.t 6)),
    .o (.call 68 (.f 104) [(.t 67), (.c (.i 13))]),
    .o (.bin 69 .xor 22 (.t 66) (.t 68)),
    .o (.mv 70 (.t 6)),
    .o (.call 71 (.f 104) [(.t 70), (.c (.i 22))]),
    .o (.bin 72 .xor 22 (.t 69) (.t 71)),
    .o (.mv 73 (.t 6)),
    .o (.mv 74 (.t 7)),
    .o (.bin 75 .and 22 (.t 73) (.t 74)),
    .o (.mv 76 (.t 6)),
    .o (.mv 77 (.t 8)),
    .o (.bin 78 .and 22 (.t 76) (.t 77)),
    .o (.bin 79 .xor 22 (.t 75) (.t 78)),
    .o (.mv 80 (.t 7)),
    .o (.mv 81 (.t 8)),
    .o (.bin 82 .and 22 (.t 80) (.t 81)),
    .o (.bin 83 .xor 22 (.t 79) (.t 82)),
    .o (.bin 84 .add 22 (.t 72) (.t 83)),
    .o (.mv 16 (.t 84)),
    .o (.mv 85 (.t 12)),
    .o (.mv 86 (.t 11)),
    .o (.mv 87 (.t 10)),
    .o (.mv 88 (.t 9)),
    .o (.mv 89 (.t 15)),
    .o (.bin 90 .add 22 (.t 88) (.t 89)),
    .o (.mv 91 (.t 8)),
    .o (.mv 92 (.t 7)),
    .o (.mv 93 (.t 6)),
    .o (.mv 94 (.t 15)),
    .o (.mv 95 (.t 16)),
    .o (.bin 96 .add 22 (.t 94) (.t 95)),
    .o (.mv 13 (.t 85)),
    .o (.mv 12 (.t 86)),
    .o (.mv 11 (.t 87)),
    .o (.mv 10 (.t 90)),
    .o (.mv 9 (.t 91)),
    .o (.mv 8 (.t 92)),
    .o (.mv 7 (.t 93)),
    .o (.mv 6 (.t 96))],
   .o (.bin 97 .add 3 (.t 35) (.c (.i 1))),
   .o (.mv 35 (.t 97))]],
 .o (.ia 98 139 (.t 2) (.c (.i 0))),
 .o (.ld 99 22 (.t 98)),
 .o (.mv 100 (.t 6)),
 .o (.bin 101 .add 22 (.t 99) (.t 100)),
 .o (.ia 102 139 (.t 2) (.c (.i 1))),
 .o (.ld 103 22 (.t 102)),
 .o (.mv 104 (.t 7)),
 .o (.bin 105 .add 22 (.t 103) (.t 104)),
 .o (.ia 106 139 (.t 2) (.c (.i 2))),
 .o (.ld 107 22 (.t 106)),
 .o (.mv 108 (.t 8)),
 .o (.bin 109 .add 22 (.t 107) (.t 108)),
 .o (.ia 110 139 (.t 2) (.c (.i 3))),
 .o (.ld 111 22 (.t 110)),
 .o (.mv 112 (.t 9)),
 .o (.bin 113 .add 22 (.t 111) (.t 112)),
 .o (.ia 114 139 (.t 2) (.c (.i 4))),
 .o (.ld 115 22 (.t 114)),
 .o (.mv 116 (.t 10)),
 .o (.bin 117 .add 22 (.t 115) (.t 116)),
 .o (.ia 118 139 (.t 2) (.c (.i 5))),
 .o (.ld 119 22 (.t 118)),
 .o (.mv 120 (.t 11)),
 .o (.bin 121 .add 22 (.t 119) (.t 120)),
 .o (.ia 122 139 (.t 2) (.c (.i 6))),
 .o (.ld 123 22 (.t 122)),
 .o (.mv 124 (.t 12)),
 .o (.bin 125 .add 22 (.t 123) (.t 124)),
 .o (.ia 126 139 (.t 2) (.c (.i 7))),
 .o (.ld 127 22 (.t 126)),
 .o (.mv 128 (.t 13)),
 .o (.bin 129 .add 22 (.t 127) (.t 128)),
 .o (.bld 130 139 [(0, (.t 101)), (1, (.t 105)), (2, (.t 109)), (3, (.t 113)), (4, (.t 117)), (5, (.t 121)), (6, (.t 125)), (7, (.t 129))]),
 .o (.st 139 (.t 4) (.t 130)),
 .ret]
theorem cc98 : Tryd.f98.body.map cc = some c98 := by kernel_rfl
theorem rs98 : Tryd.f98.results.toList.map cRS = [.c 4 139] := by kernel_rfl
-- FN 103 livery/sha2.schedule ntmps 89 params #[140]
def c103 : List C := [.o (.bx 1 140 (.t 0)),
 .o (.al 2 155),
 .o (.al 3 155),
 .o (.mv 10 (.c (.i 0))),
 .blk 0 [.lp [.o (.bin 11 .lss 3 (.t 10) (.c (.i 16))),
   .ite (.t 11) []
    [.ex 0],
   .blk 1 [.o (.mv 12 (.t 10)),
    .o (.mv 4 (.t 12)),
    .dr true 30 [.mv 13 (.t 4), .mv 14 (.t 4), .bin 15 .mul 3 (.c (.i 4)) (.t 14), .ia 16 140 (.t 1) (.t 15), .ld 17 5 (.t 16), .cv 18 5 22 (.t 17), .bin 19 .shl 22 (.t 18) (.c (.u64 24)), .mv 20 (.t 4), .bin 21 .mul 3 (.c (.i 4)) (.t 20), .bin 22 .add 3 (.t 21) (.c (.i 1)), .ia 23 140 (.t 1) (.t 22), .ld 24 5 (.t 23), .cv 25 5 22 (.t 24), .bin 26 .shl 22 (.t 25) (.c (.u64 16)), .bin 27 .or 22 (.t 19) (.t 26), .mv 28 (.t 4), .bin 29 .mul 3 (.c (.i 4)) (.t 28), .bin 30 .add 3 (.t 29) (.c (.i 2)), .ia 31 140 (.t 1) (.t 30), .ld 32 5 (.t 31), .cv 33 5 22 (.t 32), .bin 34 .shl 22 (.t 33) (.c (.u64 8)), .bin 35 .or 22 (.t 27) (.t 34), .mv 36 (.t 4), .bin 37 .mul 3 (.c (.i 4)) (.t 36), .bin 38 .add 3 (.t 37) (.c (.i 3)), .ia 39 140 (.t 1) (.t 38), .ld 40 5 (.t 39), .cv 41 5 22 (.t 40), .bin 42 .or 22 (.t 35) (.t 41), .ia 43 155 (.t 3) (.t 13), .st 22 (.t 43) (.t 42)]],
   .o (.bin 44 .add 3 (.t 10) (.c (.i 1))),
   .o (.mv 10 (.t 44))]],
 .o (.mv 5 (.c (.i 16))),
 .blk 2 [.lp [.o (.mv 45 (.t 5)),
   .o (.bin 46 .lss 3 (.t 45) (.c (.i 64))),
   .ite (.t 46) []
    [.ex 2],
   .blk 3 [.dr true 9 [.mv 49 (.t 5), .bin 50 .sub 3 (.t 49) (.c (.i 15)), .ia 51 155 (.t 3) (.t 50), .ld 52 22 (.t 51), .mv 53 (.t 5), .bin 54 .sub 3 (.t 53) (.c (.i 2)), .ia 55 155 (.t 3) (.t 54), .ld 56 22 (.t 55), .mv 6 (.t 52), .mv 7 (.t 56)],
    .o (.mv 57 (.t 6)),
    .o (.call 58 (.f 104) [(.t 57), (.c (.i 7))]),
    .o (.mv 59 (.t 6)),
    .o (.call 60 (.f 104) [(.t 59), (.c (.i 18))]),
    .o (.bin 61 .xor 22 (.t 58) (.t 60)),
    .o (.mv 62 (.t 6)),
    .o (.bin 63 .shr 22 (.t 62) (.c (.u64 3))),
    .o (.bin 64 .xor 22 (.t 61) (.t 63)),
    .o (.mv 8 (.t 64)),
    .o (.mv 65 (.t 7)),
    .o (.call 66 (.f 104) [(.t 65), (.c (.i 17))]),
    .o (.mv 67 (.t 7)),
    .o (.call 68 (.f 104) [(.t 67), (.c (.i 19))]),
    .o (.bin 69 .xor 22 (.t 66) (.t 68)),
    .o (.mv 70 (.t 7)),
    .o (.bin 71 .shr 22 (.t 70) (.c (.u64 10))),
    .o (.bin 72 .xor 22 (.t 69) (.t 71)),
    .o (.mv 9 (.t 72)),
    .dr true 14 [.mv 73 (.t 5), .mv 74 (.t 9), .mv 75 (.t 5), .bin 76 .sub 3 (.t 75) (.c (.i 7)), .ia 77 155 (.t 3) (.t 76), .ld 78 22 (.t 77), .bin 79 .add 22 (.t 74) (.t 78), .mv 80 (.t 8), .bin 81 .add 22 (.t 79) (.t 80), .mv 82 (.t 5), .bin 83 .sub 3 (.t 82) (.c (.i 16)), .ia 84 155 (.t 3) (.t 83), .ld 85 22 (.t 84), .bin 86 .add 22 (.t 81) (.t 85), .ia 87 155 (.t 3) (.t 73), .st 22 (.t 87) (.t 86)]],
   .o (.mv 47 (.t 5)),
   .o (.bin 48 .add 3 (.t 47) (.c (.i 1))),
   .o (.mv 5 (.t 48))]],
 .o (.ld 88 155 (.t 3)),
 .o (.st 155 (.t 2) (.t 88)),
 .ret]
theorem cc103 : Tryd.f103.body.map cc = some c103 := by kernel_rfl
theorem rs103 : Tryd.f103.results.toList.map cRS = [.c 2 155] := by kernel_rfl
-- FN 104 livery/sha2.right ntmps 9 params #[22, 3]
def c104 : List C := [.o (.mv 4 (.c (.u32 0))),
 .o (.mv 5 (.t 0)),
 .o (.mv 6 (.t 1)),
 .o (.un 7 .neg (.t 6)),
 .o (.call 8 (.f 106) [(.t 5), (.t 7)]),
 .o (.mv 4 (.t 8)),
 .ret]
theorem cc104 : Tryd.f104.body.map cc = some c104 := by kernel_rfl
theorem rs104 : Tryd.f104.results.toList.map cRS = [.t 4] := by kernel_rfl
end Go.Lv

