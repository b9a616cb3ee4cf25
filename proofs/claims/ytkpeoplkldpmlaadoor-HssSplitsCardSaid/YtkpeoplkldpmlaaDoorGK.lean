/- A part of the proof (GK). -/
import Derived.Test.YtkpeoplkldpmlaaDoorFE
import Derived.Test.YtkpeoplkldpmlaaDoorProg
import Derived.KernelRfl
set_option linter.all false
namespace Go.Lv
open Go Go.Proofs
set_option maxRecDepth 100000
-- TY 3 int
@[go_sem] theorem tt3 : tiOf Tryd.prog 3 = ⟨.i64, 1, 8, [(.i 0)], none, true⟩ := by kernel_rfl
-- TY 4 bool
@[go_sem] theorem tt4 : tiOf Tryd.prog 4 = ⟨.bool, 1, 1, [(.b false)], none, true⟩ := by kernel_rfl
-- TY 5 uint8
@[go_sem] theorem tt5 : tiOf Tryd.prog 5 = ⟨.u8, 1, 1, [(.u8 0)], none, true⟩ := by kernel_rfl
-- TY 9 string
@[go_sem] theorem tt9 : tiOf Tryd.prog 9 = ⟨.str, 1, 16, [(.s ⟨#[]⟩)], none, true⟩ := by kernel_rfl
-- TY 22 uint32
@[go_sem] theorem tt22 : tiOf Tryd.prog 22 = ⟨.u32, 1, 4, [(.u32 0)], none, true⟩ := by kernel_rfl
-- TY 23 [][]uint8
@[go_sem] theorem tt23 : tiOf Tryd.prog 23 = ⟨(.sl 25), 1, 24, [.nils], none, true⟩ := by kernel_rfl
-- TY 25 []uint8
@[go_sem] theorem tt25 : tiOf Tryd.prog 25 = ⟨(.sl 5), 1, 24, [.nils], none, true⟩ := by kernel_rfl
-- TY 27 api.Ots
@[go_sem] theorem tt27 : tiOf Tryd.prog 27 = ⟨(.st [(0, 22), (1, 4), (2, 3), (3, 3), (4, 3), (5, 3)]), 6, 40, [(.u32 0), (.b false), (.i 0), (.i 0), (.i 0), (.i 0)], (some [false, true, false, false, false, false]), true⟩ := by kernel_rfl
-- TY 35 [16]uint8
@[go_sem] theorem tt35 : tiOf Tryd.prog 35 = ⟨(.arr 16 5), 16, 16, [(.u8 0), (.u8 0), (.u8 0), (.u8 0), (.u8 0), (.u8 0), (.u8 0), (.u8 0), (.u8 0), (.u8 0), (.u8 0), (.u8 0), (.u8 0), (.u8 0), (.u8 0), (.u8 0)], (some [false, false, false, false, false, false, false, false, false, false, false, false, false, false, false, false]), true⟩ := by kernel_rfl
-- TY 37 liverylaw07.Leaf
@[go_sem] theorem tt37 : tiOf Tryd.prog 37 = ⟨(.st [(0, 22), (1, 35), (17, 22), (18, 25)]), 19, 48, [(.u32 0), (.u8 0), (.u8 0), (.u8 0), (.u8 0), (.u8 0), (.u8 0), (.u8 0), (.u8 0), (.u8 0), (.u8 0), (.u8 0), (.u8 0), (.u8 0), (.u8 0), (.u8 0), (.u8 0), (.u32 0), .nils], none, true⟩ := by kernel_rfl
-- TY 39 liverylaw07.Way
@[go_sem] theorem tt39 : tiOf Tryd.prog 39 = ⟨(.st [(0, 3), (1, 3), (2, 3)]), 3, 24, [(.i 0), (.i 0), (.i 0)], (some [false, false, false]), true⟩ := by kernel_rfl
-- TY 40 api.Errno
@[go_sem] theorem tt40 : tiOf Tryd.prog 40 = ⟨.i64, 1, 8, [(.i 0)], none, true⟩ := by kernel_rfl
-- TY 57 [8]uint32
@[go_sem] theorem tt57 : tiOf Tryd.prog 57 = ⟨(.arr 8 22), 8, 32, [(.u32 0), (.u32 0), (.u32 0), (.u32 0), (.u32 0), (.u32 0), (.u32 0), (.u32 0)], (some [false, false, false, false, false, false, false, false]), true⟩ := by kernel_rfl
-- TY 58 api.Adrs
@[go_sem] theorem tt58 : tiOf Tryd.prog 58 = ⟨(.arr 8 22), 8, 32, [(.u32 0), (.u32 0), (.u32 0), (.u32 0), (.u32 0), (.u32 0), (.u32 0), (.u32 0)], (some [false, false, false, false, false, false, false, false]), true⟩ := by kernel_rfl
-- TY 60 api.Xms
@[go_sem] theorem tt60 : tiOf Tryd.prog 60 = ⟨(.st [(0, 22), (1, 4), (2, 3), (3, 3), (4, 3)]), 5, 32, [(.u32 0), (.b false), (.i 0), (.i 0), (.i 0)], (some [false, true, false, false, false]), true⟩ := by kernel_rfl
-- TY 70 []int
@[go_sem] theorem tt70 : tiOf Tryd.prog 70 = ⟨(.sl 3), 1, 24, [.nils], none, true⟩ := by kernel_rfl
-- TY 76 [32]uint8
@[go_sem] theorem tt76 : tiOf Tryd.prog 76 = ⟨(.arr 32 5), 32, 32, [(.u8 0), (.u8 0), (.u8 0), (.u8 0), (.u8 0), (.u8 0), (.u8 0), (.u8 0), (.u8 0), (.u8 0), (.u8 0), (.u8 0), (.u8 0), (.u8 0), (.u8 0), (.u8 0), (.u8 0), (.u8 0), (.u8 0), (.u8 0), (.u8 0), (.u8 0), (.u8 0), (.u8 0), (.u8 0), (.u8 0), (.u8 0), (.u8 0), (.u8 0), (.u8 0), (.u8 0), (.u8 0)], (some [false, false, false, false, false, false, false, false, false, false, false, false, false, false, false, false, false, false, false, false, false, false, false, false, false, false, false, false, false, false, false, false]), true⟩ := by kernel_rfl
-- TY 82 []api.Level
@[go_sem] theorem tt82 : tiOf Tryd.prog 82 = ⟨(.sl 93), 1, 24, [.nils], none, true⟩ := by kernel_rfl
-- TY 83 uint64
@[go_sem] theorem tt83 : tiOf Tryd.prog 83 = ⟨.u64, 1, 8, [(.u64 0)], none, true⟩ := by kernel_rfl
-- TY 84 []uint32
@[go_sem] theorem tt84 : tiOf Tryd.prog 84 = ⟨(.sl 22), 1, 24, [.nils], none, true⟩ := by kernel_rfl
-- TY 93 api.Level
@[go_sem] theorem tt93 : tiOf Tryd.prog 93 = ⟨(.st [(0, 22), (1, 22)]), 2, 8, [(.u32 0), (.u32 0)], (some [false, false]), true⟩ := by kernel_rfl
-- TY 107 *xmss.Tree
@[go_sem] theorem tt107 : tiOf Tryd.prog 107 = ⟨.ptr, 1, 8, [.nilp], none, true⟩ := by kernel_rfl
-- TY 113 api.Lms
@[go_sem] theorem tt113 : tiOf Tryd.prog 113 = ⟨(.st [(0, 22), (1, 4), (2, 3), (3, 3)]), 4, 24, [(.u32 0), (.b false), (.i 0), (.i 0)], (some [false, true, false, false]), true⟩ := by kernel_rfl
-- TY 115 liverylaw08.Key
@[go_sem] theorem tt115 : tiOf Tryd.prog 115 = ⟨(.st [(0, 113), (4, 27), (10, 35), (26, 25)]), 27, 104, [(.u32 0), (.b false), (.i 0), (.i 0), (.u32 0), (.b false), (.i 0), (.i 0), (.i 0), (.i 0), (.u8 0), (.u8 0), (.u8 0), (.u8 0), (.u8 0), (.u8 0), (.u8 0), (.u8 0), (.u8 0), (.u8 0), (.u8 0), (.u8 0), (.u8 0), (.u8 0), (.u8 0), (.u8 0), .nils], none, true⟩ := by kernel_rfl
-- TY 123 *lms.Tree
@[go_sem] theorem tt123 : tiOf Tryd.prog 123 = ⟨.ptr, 1, 8, [.nilp], none, true⟩ := by kernel_rfl
-- TY 125 lms.key
@[go_sem] theorem tt125 : tiOf Tryd.prog 125 = ⟨(.st [(0, 113), (4, 27), (10, 35), (26, 25)]), 27, 104, [(.u32 0), (.b false), (.i 0), (.i 0), (.u32 0), (.b false), (.i 0), (.i 0), (.i 0), (.i 0), (.u8 0), (.u8 0), (.u8 0), (.u8 0), (.u8 0), (.u8 0), (.u8 0), (.u8 0), (.u8 0), (.u8 0), (.u8 0), (.u8 0), (.u8 0), (.u8 0), (.u8 0), (.u8 0), .nils], none, true⟩ := by kernel_rfl
-- TY 126 []lms.held
@[go_sem] theorem tt126 : tiOf Tryd.prog 126 = ⟨(.sl 209), 1, 24, [.nils], none, true⟩ := by kernel_rfl
-- TY 128 lms.Tree
@[go_sem] theorem tt128 : tiOf Tryd.prog 128 = ⟨(.st [(0, 125), (27, 126), (28, 83)]), 29, 136, [(.u32 0), (.b false), (.i 0), (.i 0), (.u32 0), (.b false), (.i 0), (.i 0), (.i 0), (.i 0), (.u8 0), (.u8 0), (.u8 0), (.u8 0), (.u8 0), (.u8 0), (.u8 0), (.u8 0), (.u8 0), (.u8 0), (.u8 0), (.u8 0), (.u8 0), (.u8 0), (.u8 0), (.u8 0), .nils, .nils, (.u64 0)], none, true⟩ := by kernel_rfl
-- TY 129 []*lms.Tree
@[go_sem] theorem tt129 : tiOf Tryd.prog 129 = ⟨(.sl 123), 1, 24, [.nils], none, true⟩ := by kernel_rfl
-- TY 133 iter.Seq2[int,[]uint8]
@[go_sem] theorem tt133 : tiOf Tryd.prog 133 = ⟨.fn, 1, 8, [.nilfn], none, true⟩ := by kernel_rfl
-- TY 145 lmots.leaf
@[go_sem] theorem tt145 : tiOf Tryd.prog 145 = ⟨(.st [(0, 27), (6, 25)]), 7, 64, [(.u32 0), (.b false), (.i 0), (.i 0), (.i 0), (.i 0), .nils], none, true⟩ := by kernel_rfl
-- TY 157 func([]uint8, []uint8) []uint8
@[go_sem] theorem tt157 : tiOf Tryd.prog 157 = ⟨.fn, 1, 8, [.nilfn], none, true⟩ := by kernel_rfl
-- TY 161 wots.way
@[go_sem] theorem tt161 : tiOf Tryd.prog 161 = ⟨(.st [(0, 60), (5, 25), (6, 157), (7, 157)]), 8, 72, [(.u32 0), (.b false), (.i 0), (.i 0), (.i 0), .nils, .nilfn, .nilfn], none, true⟩ := by kernel_rfl
-- TY 176 hss.tree
@[go_sem] theorem tt176 : tiOf Tryd.prog 176 = ⟨(.st [(0, 113), (4, 27), (10, 35), (26, 25)]), 27, 104, [(.u32 0), (.b false), (.i 0), (.i 0), (.u32 0), (.b false), (.i 0), (.i 0), (.i 0), (.i 0), (.u8 0), (.u8 0), (.u8 0), (.u8 0), (.u8 0), (.u8 0), (.u8 0), (.u8 0), (.u8 0), (.u8 0), (.u8 0), (.u8 0), (.u8 0), (.u8 0), (.u8 0), (.u8 0), .nils], none, true⟩ := by kernel_rfl
-- TY 186 api.XmssKey
@[go_sem] theorem tt186 : tiOf Tryd.prog 186 = ⟨(.st [(0, 25), (1, 25), (2, 25)]), 3, 72, [.nils, .nils, .nils], none, true⟩ := by kernel_rfl
-- TY 187 []xmss.held
@[go_sem] theorem tt187 : tiOf Tryd.prog 187 = ⟨(.sl 193), 1, 24, [.nils], none, true⟩ := by kernel_rfl
-- TY 189 xmss.stack[livery/xmss.held]
@[go_sem] theorem tt189 : tiOf Tryd.prog 189 = ⟨(.st [(0, 187)]), 1, 24, [.nils], none, true⟩ := by kernel_rfl
-- TY 191 xmss.Tree
@[go_sem] theorem tt191 : tiOf Tryd.prog 191 = ⟨(.st [(0, 60), (5, 186), (8, 189), (9, 3)]), 10, 136, [(.u32 0), (.b false), (.i 0), (.i 0), (.i 0), .nils, .nils, .nils, .nils, (.i 0)], none, true⟩ := by kernel_rfl
-- TY 193 xmss.held
@[go_sem] theorem tt193 : tiOf Tryd.prog 193 = ⟨(.st [(0, 3), (1, 22), (2, 25)]), 3, 40, [(.i 0), (.u32 0), .nils], none, true⟩ := by kernel_rfl
-- TY 209 lms.held
@[go_sem] theorem tt209 : tiOf Tryd.prog 209 = ⟨(.st [(0, 3), (1, 22), (2, 25)]), 3, 40, [(.i 0), (.u32 0), .nils], none, true⟩ := by kernel_rfl
-- TY 213 *keccak.Xof
@[go_sem] theorem tt213 : tiOf Tryd.prog 213 = ⟨.ptr, 1, 8, [.nilp], none, true⟩ := by kernel_rfl
-- TY 216 *sha2.Hash
@[go_sem] theorem tt216 : tiOf Tryd.prog 216 = ⟨.ptr, 1, 8, [.nilp], none, true⟩ := by kernel_rfl
-- TY 222 [64]uint8
@[go_sem] theorem tt222 : tiOf Tryd.prog 222 = ⟨(.arr 64 5), 64, 64, [(.u8 0), (.u8 0), (.u8 0), (.u8 0), (.u8 0), (.u8 0), (.u8 0), (.u8 0), (.u8 0), (.u8 0), (.u8 0), (.u8 0), (.u8 0), (.u8 0), (.u8 0), (.u8 0), (.u8 0), (.u8 0), (.u8 0), (.u8 0), (.u8 0), (.u8 0), (.u8 0), (.u8 0), (.u8 0), (.u8 0), (.u8 0), (.u8 0), (.u8 0), (.u8 0), (.u8 0), (.u8 0), (.u8 0), (.u8 0), (.u8 0), (.u8 0), (.u8 0), (.u8 0), (.u8 0), (.u8 0), (.u8 0), (.u8 0), (.u8 0), (.u8 0), (.u8 0), (.u8 0), (.u8 0), (.u8 0), (.u8 0), (.u8 0), (.u8 0), (.u8 0), (.u8 0), (.u8 0), (.u8 0), (.u8 0), (.u8 0), (.u8 0), (.u8 0), (.u8 0), (.u8 0), (.u8 0), (.u8 0), (.u8 0)], (some [false, false, false, false, false, false, false, false, false, false, false, false, false, false, false, false, false, false, false, false, false, false, false, false, false, false, false, false, false, false, false, false, false, false, false, false, false, false, false, false, false, false, false, false, false, false, false, false, false, false, false, false, false, false, false, false, false, false, false, false, false, false, false, false]), true⟩ := by kernel_rfl
-- TY 225 uint16
@[go_sem] theorem tt225 : tiOf Tryd.prog 225 = ⟨.u16, 1, 2, [(.u16 0)], none, true⟩ := by kernel_rfl
-- TY 228 [3][]uint8
@[go_sem] theorem tt228 : tiOf Tryd.prog 228 = ⟨(.arr 3 25), 3, 72, [.nils, .nils, .nils], none, true⟩ := by kernel_rfl
-- TY 230 []bool
@[go_sem] theorem tt230 : tiOf Tryd.prog 230 = ⟨(.sl 4), 1, 24, [.nils], none, true⟩ := by kernel_rfl
-- TY 235 uint
@[go_sem] theorem tt235 : tiOf Tryd.prog 235 = ⟨.u64, 1, 8, [(.u64 0)], none, true⟩ := by kernel_rfl
-- TY 254 [25]uint64
@[go_sem] theorem tt254 : tiOf Tryd.prog 254 = ⟨(.arr 25 83), 25, 200, [(.u64 0), (.u64 0), (.u64 0), (.u64 0), (.u64 0), (.u64 0), (.u64 0), (.u64 0), (.u64 0), (.u64 0), (.u64 0), (.u64 0), (.u64 0), (.u64 0), (.u64 0), (.u64 0), (.u64 0), (.u64 0), (.u64 0), (.u64 0), (.u64 0), (.u64 0), (.u64 0), (.u64 0), (.u64 0)], (some [false, false, false, false, false, false, false, false, false, false, false, false, false, false, false, false, false, false, false, false, false, false, false, false, false]), true⟩ := by kernel_rfl
-- TY 256 keccak.sponge
@[go_sem] theorem tt256 : tiOf Tryd.prog 256 = ⟨(.st [(0, 254), (25, 3), (26, 3)]), 27, 216, [(.u64 0), (.u64 0), (.u64 0), (.u64 0), (.u64 0), (.u64 0), (.u64 0), (.u64 0), (.u64 0), (.u64 0), (.u64 0), (.u64 0), (.u64 0), (.u64 0), (.u64 0), (.u64 0), (.u64 0), (.u64 0), (.u64 0), (.u64 0), (.u64 0), (.u64 0), (.u64 0), (.u64 0), (.u64 0), (.i 0), (.i 0)], none, true⟩ := by kernel_rfl
-- TY 258 keccak.Xof
@[go_sem] theorem tt258 : tiOf Tryd.prog 258 = ⟨(.st [(0, 4), (1, 256), (28, 3)]), 29, 232, [(.b false), (.u64 0), (.u64 0), (.u64 0), (.u64 0), (.u64 0), (.u64 0), (.u64 0), (.u64 0), (.u64 0), (.u64 0), (.u64 0), (.u64 0), (.u64 0), (.u64 0), (.u64 0), (.u64 0), (.u64 0), (.u64 0), (.u64 0), (.u64 0), (.u64 0), (.u64 0), (.u64 0), (.u64 0), (.u64 0), (.i 0), (.i 0), (.i 0)], none, true⟩ := by kernel_rfl
-- TY 261 sha2.Hash
@[go_sem] theorem tt261 : tiOf Tryd.prog 261 = ⟨(.st [(0, 4), (1, 57), (9, 222), (73, 3), (74, 3)]), 75, 120, [(.b false), (.u32 0), (.u32 0), (.u32 0), (.u32 0), (.u32 0), (.u32 0), (.u32 0), (.u32 0), (.u8 0), (.u8 0), (.u8 0), (.u8 0), (.u8 0), (.u8 0), (.u8 0), (.u8 0), (.u8 0), (.u8 0), (.u8 0), (.u8 0), (.u8 0), (.u8 0), (.u8 0), (.u8 0), (.u8 0), (.u8 0), (.u8 0), (.u8 0), (.u8 0), (.u8 0), (.u8 0), (.u8 0), (.u8 0), (.u8 0), (.u8 0), (.u8 0), (.u8 0), (.u8 0), (.u8 0), (.u8 0), (.u8 0), (.u8 0), (.u8 0), (.u8 0), (.u8 0), (.u8 0), (.u8 0), (.u8 0), (.u8 0), (.u8 0), (.u8 0), (.u8 0), (.u8 0), (.u8 0), (.u8 0), (.u8 0), (.u8 0), (.u8 0), (.u8 0), (.u8 0), (.u8 0), (.u8 0), (.u8 0), (.u8 0), (.u8 0), (.u8 0), (.u8 0), (.u8 0), (.u8 0), (.u8 0), (.u8 0), (.u8 0), (.i 0), (.i 0)], none, true⟩ := by kernel_rfl
-- TY 265 [64]uint32
@[go_sem] theorem tt265 : tiOf Tryd.prog 265 = ⟨(.arr 64 22), 64, 256, [(.u32 0), (.u32 0), (.u32 0), (.u32 0), (.u32 0), (.u32 0), (.u32 0), (.u32 0), (.u32 0), (.u32 0), (.u32 0), (.u32 0), (.u32 0), (.u32 0), (.u32 0), (.u32 0), (.u32 0), (.u32 0), (.u32 0), (.u32 0), (.u32 0), (.u32 0), (.u32 0), (.u32 0), (.u32 0), (.u32 0), (.u32 0), (.u32 0), (.u32 0), (.u32 0), (.u32 0), (.u32 0), (.u32 0), (.u32 0), (.u32 0), (.u32 0), (.u32 0), (.u32 0), (.u32 0), (.u32 0), (.u32 0), (.u32 0), (.u32 0), (.u32 0), (.u32 0), (.u32 0), (.u32 0), (.u32 0), (.u32 0), (.u32 0), (.u32 0), (.u32 0), (.u32 0), (.u32 0), (.u32 0), (.u32 0), (.u32 0), (.u32 0), (.u32 0), (.u32 0), (.u32 0), (.u32 0), (.u32 0), (.u32 0)], (some [false, false, false, false, false, false, false, false, false, false, false, false, false, false, false, false, false, false, false, false, false, false, false, false, false, false, false, false, false, false, false, false, false, false, false, false, false, false, false, false, false, false, false, false, false, false, false, false, false, false, false, false, false, false, false, false, false, false, false, false, false, false, false, false]), true⟩ := by kernel_rfl
-- TY 273 [24]uint64
@[go_sem] theorem tt273 : tiOf Tryd.prog 273 = ⟨(.arr 24 83), 24, 192, [(.u64 0), (.u64 0), (.u64 0), (.u64 0), (.u64 0), (.u64 0), (.u64 0), (.u64 0), (.u64 0), (.u64 0), (.u64 0), (.u64 0), (.u64 0), (.u64 0), (.u64 0), (.u64 0), (.u64 0), (.u64 0), (.u64 0), (.u64 0), (.u64 0), (.u64 0), (.u64 0), (.u64 0)], (some [false, false, false, false, false, false, false, false, false, false, false, false, false, false, false, false, false, false, false, false, false, false, false, false]), true⟩ := by kernel_rfl
-- TY 278 [25]int
@[go_sem] theorem tt278 : tiOf Tryd.prog 278 = ⟨(.arr 25 3), 25, 200, [(.i 0), (.i 0), (.i 0), (.i 0), (.i 0), (.i 0), (.i 0), (.i 0), (.i 0), (.i 0), (.i 0), (.i 0), (.i 0), (.i 0), (.i 0), (.i 0), (.i 0), (.i 0), (.i 0), (.i 0), (.i 0), (.i 0), (.i 0), (.i 0), (.i 0)], (some [false, false, false, false, false, false, false, false, false, false, false, false, false, false, false, false, false, false, false, false, false, false, false, false, false]), true⟩ := by kernel_rfl
-- TY 284 [5]uint64
@[go_sem] theorem tt284 : tiOf Tryd.prog 284 = ⟨(.arr 5 83), 5, 40, [(.u64 0), (.u64 0), (.u64 0), (.u64 0), (.u64 0)], (some [false, false, false, false, false]), true⟩ := by kernel_rfl
/-- the package's variables: the state at the beginning, the table -/
def Gs : List (Nat × List AV) := [(0, H256.l.map .u32), (1, K256.map .u32)]
@[go_sem] theorem gs0 : lkf Gs 0 = some (H256.l.map .u32) := rfl
@[go_sem] theorem gs1 : lkf Gs 1 = some (K256.map .u32) := rfl
end Go.Lv

namespace Go.Lv
open Go Go.Proofs
set_option maxRecDepth 100000
-- FN 108 livery/octet.Join ntmps 33 params #[23]
def c108 : List C := [.o (.mv 2 (.c .nils)),
 .o (.mv 3 (.c (.i 0))),
 .o (.mv 9 (.t 0)),
 .o (.len 10 23 (.t 9)),
 .o (.mv 11 (.c (.i 0))),
 .blk 0 [.lp [.o (.bin 12 .lss 3 (.t 11) (.t 10)),
   .ite (.t 12) []
    [.ex 0],
   .blk 1 [.o (.ia 13 23 (.t 9) (.t 11)),
    .o (.ld 14 25 (.t 13)),
    .o (.mv 5 (.t 14)),
    .o (.mv 15 (.t 3)),
    .o (.mv 16 (.t 5)),
    .o (.len 17 25 (.t 16)),
    .o (.bin 18 .add 3 (.t 15) (.t 17)),
    .o (.mv 3 (.t 18))],
   .o (.bin 19 .add 3 (.t 11) (.c (.i 1))),
   .o (.mv 11 (.t 19))]],
 .o (.mv 20 (.t 3)),
 .o (.msl 21 25 (.c (.i 0)) (.t 20)),
 .o (.mv 6 (.t 21)),
 .o (.mv 22 (.t 0)),
 .o (.len 23 23 (.t 22)),
 .o (.mv 24 (.c (.i 0))),
 .blk 2 [.lp [.o (.bin 25 .lss 3 (.t 24) (.t 23)),
   .ite (.t 25) []
    [.ex 2],
   .blk 3 [.o (.ia 26 23 (.t 22) (.t 24)),
    .o (.ld 27 25 (.t 26)),
    .o (.mv 8 (.t 27)),
    .o (.mv 28 (.t 6)),
    .o (.mv 29 (.t 8)),
    .o (.app 30 25 25 (.t 28) (.t 29)),
    .o (.mv 6 (.t 30))],
   .o (.bin 31 .add 3 (.t 24) (.c (.i 1))),
   .o (.mv 24 (.t 31))]],
 .o (.mv 32 (.t 6)),
 .o (.mv 2 (.t 32)),
 .ret]
theorem cc108 : Tryd.f108.body.map cc = some c108 := by kernel_rfl
theorem rs108 : Tryd.f108.results.toList.map cRS = [.t 2] := by kernel_rfl
-- FN 118 livery/octet.U32 ntmps 6 params #[22]
def c118 : List C := [.o (.mv 2 (.c .nils)),
 .o (.mv 3 (.t 0)),
 .o (.cv 4 22 83 (.t 3)),
 .o (.call 5 (.f 190) [(.t 4), (.c (.i 4))]),
 .o (.mv 2 (.t 5)),
 .ret]
theorem cc118 : Tryd.f118.body.map cc = some c118 := by kernel_rfl
theorem rs118 : Tryd.f118.results.toList.map cRS = [.t 2] := by kernel_rfl
-- FN 133 livery/octet.Same ntmps 31 params #[25, 25]
def c133 : List C := [.o (.mv 4 (.c (.b false))),
 .o (.mv 7 (.t 0)),
 .o (.len 8 25 (.t 7)),
 .o (.mv 9 (.t 1)),
 .o (.len 10 25 (.t 9)),
 .o (.bin 11 .neq 3 (.t 8) (.t 10)),
 .ite (.t 11) [.o (.mv 4 (.c (.b false))),
  .ret]
  [],
 .o (.mv 5 (.c (.u8 0))),
 .o (.mv 12 (.t 0)),
 .o (.len 13 25 (.t 12)),
 .o (.mv 14 (.c (.i 0))),
 .blk 0 [.lp [.o (.bin 15 .lss 3 (.t 14) (.t 13)),
   .ite (.t 15) []
    [.ex 0],
   .blk 1 [.o (.mv 16 (.t 14)),
    .o (.mv 6 (.t 16)),
    .dr true 10 [.mv 17 (.t 5), .mv 18 (.t 0), .mv 19 (.t 6), .ia 20 25 (.t 18) (.t 19), .ld 21 5 (.t 20), .mv 22 (.t 1), .mv 23 (.t 6), .ia 24 25 (.t 22) (.t 23), .ld 25 5 (.t 24), .bin 26 .xor 5 (.t 21) (.t 25), .bin 27 .or 5 (.t 17) (.t 26), .mv 5 (.t 27)]],
   .o (.bin 28 .add 3 (.t 14) (.c (.i 1))),
   .o (.mv 14 (.t 28))]],
 .o (.mv 29 (.t 5)),
 .o (.bin 30 .eql 5 (.t 29) (.c (.u8 0))),
 .o (.mv 4 (.t 30)),
 .ret]
theorem cc133 : Tryd.f133.body.map cc = some c133 := by kernel_rfl
theorem rs133 : Tryd.f133.results.toList.map cRS = [.t 4] := by kernel_rfl
-- FN 189 livery/octet.U16 ntmps 6 params #[225]
def c189 : List C := [.o (.mv 2 (.c .nils)),
 .o (.mv 3 (.t 0)),
 .o (.cv 4 225 83 (.t 3)),
 .o (.call 5 (.f 190) [(.t 4), (.c (.i 2))]),
 .o (.mv 2 (.t 5)),
 .ret]
theorem cc189 : Tryd.f189.body.map cc = some c189 := by kernel_rfl
theorem rs189 : Tryd.f189.results.toList.map cRS = [.t 2] := by kernel_rfl
-- FN 190 livery/octet.big ntmps 27 params #[83, 3]
def c190 : List C := [.o (.mv 4 (.c .nils)),
 .o (.mv 7 (.t 1)),
 .o (.msl 8 25 (.t 7) (.t 7)),
 .o (.mv 5 (.t 8)),
 .o (.mv 9 (.t 5)),
 .o (.len 10 25 (.t 9)),
 .o (.mv 11 (.c (.i 0))),
 .blk 0 [.lp [.o (.bin 12 .lss 3 (.t 11) (.t 10)),
   .ite (.t 12) []
    [.ex 0],
   .blk 1 [.o (.mv 13 (.t 11)),
    .o (.mv 6 (.t 13)),
    .o (.mv 14 (.t 5)),
    .o (.mv 15 (.t 1)),
    .o (.bin 16 .sub 3 (.t 15) (.c (.i 1))),
    .o (.mv 17 (.t 6)),
    .o (.bin 18 .sub 3 (.t 16) (.t 17)),
    .o (.mv 19 (.t 0)),
    .o (.mv 20 (.t 6)),
    .o (.bin 21 .mul 3 (.c (.i 8)) (.t 20)),
    .o (.bin 22 .shr 83 (.t 19) (.t 21)),
    .o (.cv 23 83 5 (.t 22)),
    .o (.ia 24 25 (.t 14) (.t 18)),
    .o (.st 5 (.t 24) (.t 23))],
   .o (.bin 25 .add 3 (.t 11) (.c (.i 1))),
   .o (.mv 11 (.t 25))]],
 .o (.mv 26 (.t 5)),
 .o (.mv 4 (.t 26)),
 .ret]
theorem cc190 : Tryd.f190.body.map cc = some c190 := by kernel_rfl
theorem rs190 : Tryd.f190.results.toList.map cRS = [.t 4] := by kernel_rfl
-- FN 194 livery/octet.Xor ntmps 35 params #[25, 25]
def c194 : List C := [.o (.mv 4 (.c .nils)),
 .o (.mv 5 (.c (.i 0))),
 .o (.mv 8 (.t 0)),
 .o (.len 9 25 (.t 8)),
 .o (.mv 10 (.t 1)),
 .o (.len 11 25 (.t 10)),
 .o (.bin 12 .neq 3 (.t 9) (.t 11)),
 .ite (.t 12) [.o (.mv 4 (.c .nils)),
  .o (.mv 5 (.c (.i 1))),
  .ret]
  [],
 .o (.mv 13 (.t 0)),
 .o (.len 14 25 (.t 13)),
 .o (.msl 15 25 (.t 14) (.t 14)),
 .o (.mv 6 (.t 15)),
 .o (.mv 16 (.t 0)),
 .o (.len 17 25 (.t 16)),
 .o (.mv 18 (.c (.i 0))),
 .blk 0 [.lp [.o (.bin 19 .lss 3 (.t 18) (.t 17)),
   .ite (.t 19) []
    [.ex 0],
   .blk 1 [.o (.mv 20 (.t 18)),
    .o (.mv 7 (.t 20)),
    .dr true 11 [.mv 21 (.t 6), .mv 22 (.t 7), .mv 23 (.t 0), .mv 24 (.t 7), .ia 25 25 (.t 23) (.t 24), .ld 26 5 (.t 25), .mv 27 (.t 1), .mv 28 (.t 7), .ia 29 25 (.t 27) (.t 28), .ld 30 5 (.t 29), .bin 31 .xor 5 (.t 26) (.t 30), .ia 32 25 (.t 21) (.t 22), .st 5 (.t 32) (.t 31)]],
   .o (.bin 33 .add 3 (.t 18) (.c (.i 1))),
   .o (.mv 18 (.t 33))]],
 .o (.mv 34 (.t 6)),
 .o (.mv 4 (.t 34)),
 .o (.mv 5 (.c (.i 0))),
 .ret]
theorem cc194 : Tryd.f194.body.map cc = some c194 := by kernel_rfl
theorem rs194 : Tryd.f194.results.toList.map cRS = [.t 4, .t 5] := by kernel_rfl
-- FN 214 livery/octet.BigOf ntmps 28 params #[25]
def c214 : List C := [.o (.mv 2 (.c (.u64 0))),
 .o (.mv 3 (.c (.i 0))),
 .o (.mv 7 (.t 0)),
 .o (.len 8 25 (.t 7)),
 .o (.bin 9 .lss 3 (.t 8) (.c (.i 1))),
 .o (.mv 10 (.t 9)),
 .o (.gd 10 false (.mv 11 (.t 0))),
 .o (.gd 10 false (.len 12 25 (.t 11))),
 .o (.gd 10 false (.bin 13 .gtr 3 (.t 12) (.c (.i 8)))),
 .o (.pick 14 (.t 10) (.c (.b true)) (.t 13)),
 .ite (.t 14) [.o (.mv 2 (.c (.u64 0))),
  .o (.mv 3 (.c (.i 1))),
  .ret]
  [],
 .o (.mv 4 (.c (.u64 0))),
 .o (.mv 15 (.t 0)),
 .o (.len 16 25 (.t 15)),
 .o (.mv 17 (.c (.i 0))),
 .blk 0 [.lp [.o (.bin 18 .lss 3 (.t 17) (.t 16)),
   .ite (.t 18) []
    [.ex 0],
   .blk 1 [.o (.ia 19 25 (.t 15) (.t 17)),
    .o (.ld 20 5 (.t 19)),
    .o (.mv 6 (.t 20)),
    .o (.mv 21 (.t 4)),
    .o (.bin 22 .shl 83 (.t 21) (.c (.u64 8))),
    .o (.mv 23 (.t 6)),
    .o (.cv 24 5 83 (.t 23)),
    .o (.bin 25 .or 83 (.t 22) (.t 24)),
    .o (.mv 4 (.t 25))],
   .o (.bin 26 .add 3 (.t 17) (.c (.i 1))),
   .o (.mv 17 (.t 26))]],
 .o (.mv 27 (.t 4)),
 .o (.mv 2 (.t 27)),
 .o (.mv 3 (.c (.i 0))),
 .ret]
theorem cc214 : Tryd.f214.body.map cc = some c214 := by kernel_rfl
theorem rs214 : Tryd.f214.results.toList.map cRS = [.t 2, .t 3] := by kernel_rfl
-- FN 224 livery/octet.U64 ntmps 5 params #[83]
def c224 : List C := [.o (.mv 2 (.c .nils)),
 .o (.mv 3 (.t 0)),
 .o (.call 4 (.f 190) [(.t 3), (.c (.i 8))]),
 .o (.mv 2 (.t 4)),
 .ret]
theorem cc224 : Tryd.f224.body.map cc = some c224 := by kernel_rfl
theorem rs224 : Tryd.f224.results.toList.map cRS = [.t 2] := by kernel_rfl
end Go.Lv

namespace Go.Lv
open Go Go.Proofs
set_option maxRecDepth 100000
-- FN 132 livery/param.OtsLen ntmps 13 params #[27]
def c132 : List C := [.o (.bx 1 27 (.t 0)),
 .o (.mv 2 (.c (.i 0))),
 .o (.ld 3 27 (.t 1)),
 .o (.call 4 (.f 200) [(.t 3)]),
 .o (.un 5 .not (.t 4)),
 .ite (.t 5) [.o (.mv 2 (.c (.i 0))),
  .ret]
  [],
 .o (.fa 6 27 (.t 1) 2),
 .o (.ld 7 3 (.t 6)),
 .o (.fa 8 27 (.t 1) 4),
 .o (.ld 9 3 (.t 8)),
 .o (.bin 10 .add 3 (.t 9) (.c (.i 1))),
 .o (.bin 11 .mul 3 (.t 7) (.t 10)),
 .o (.bin 12 .add 3 (.c (.i 4)) (.t 11)),
 .o (.mv 2 (.t 12)),
 .ret]
theorem cc132 : Tryd.f132.body.map cc = some c132 := by kernel_rfl
theorem rs132 : Tryd.f132.results.toList.map cRS = [.t 2] := by kernel_rfl
-- FN 165 livery/param.LmsLen ntmps 19 params #[113, 27]
def c165 : List C := [.o (.bx 2 113 (.t 0)),
 .o (.bx 3 27 (.t 1)),
 .o (.mv 4 (.c (.i 0))),
 .o (.ld 5 113 (.t 2)),
 .o (.ld 6 27 (.t 3)),
 .o (.call 7 (.f 202) [(.t 5), (.t 6)]),
 .o (.un 8 .not (.t 7)),
 .ite (.t 8) [.o (.mv 4 (.c (.i 0))),
  .ret]
  [],
 .dr true 9 [.ld 9 27 (.t 3), .call 10 (.f 132) [(.t 9)], .bin 11 .add 3 (.c (.i 4)) (.t 10), .bin 12 .add 3 (.t 11) (.c (.i 4)), .fa 13 113 (.t 2) 3, .ld 14 3 (.t 13), .fa 15 113 (.t 2) 2, .ld 16 3 (.t 15), .bin 17 .mul 3 (.t 14) (.t 16), .bin 18 .add 3 (.t 12) (.t 17), .mv 4 (.t 18)],
 .ret]
theorem cc165 : Tryd.f165.body.map cc = some c165 := by kernel_rfl
theorem rs165 : Tryd.f165.results.toList.map cRS = [.t 4] := by kernel_rfl
-- FN 178 livery/param.Ots ntmps 58 params #[22]
def c178 : List C := [.o (.al 2 27),
 .o (.mv 3 (.c (.i 0))),
 .o (.mv 10 (.t 0)),
 .o (.bin 11 .lss 22 (.t 10) (.c (.u32 1))),
 .o (.mv 12 (.t 11)),
 .o (.gd 12 false (.mv 13 (.t 0))),
 .o (.gd 12 false (.bin 14 .gtr 22 (.t 13) (.c (.u32 16)))),
 .o (.pick 15 (.t 12) (.c (.b true)) (.t 14)),
 .ite (.t 15) [.o (.bld 16 27 []),
  .o (.st 27 (.t 2) (.t 16)),
  .o (.mv 3 (.c (.i 60))),
  .ret]
  [],
 .o (.mv 18 (.t 0)),
 .o (.bin 19 .sub 22 (.t 18) (.c (.u32 1))),
 .o (.cv 20 22 3 (.t 19)),
 .o (.bin 21 .quo 3 (.t 20) (.c (.i 4))),
 .o (.call 22 (.f 218) [(.t 21)]),
 .o (.mv 17 (.t 22)),
 .o (.ext 23 (.t 17) 0),
 .o (.ext 24 (.t 17) 1),
 .o (.mv 4 (.t 23)),
 .o (.mv 5 (.t 24)),
 .o (.mv 25 (.t 0)),
 .o (.bin 26 .sub 22 (.t 25) (.c (.u32 1))),
 .o (.bin 27 .rem 22 (.t 26) (.c (.u32 4))),
 .o (.bin 28 .shl 3 (.c (.i 1)) (.t 27)),
 .o (.mv 6 (.t 28)),
 .o (.mv 29 (.t 5)),
 .o (.bin 30 .mul 3 (.c (.i 8)) (.t 29)),
 .o (.mv 31 (.t 6)),
 .o (.bin 32 .quo 3 (.t 30) (.t 31)),
 .o (.mv 7 (.t 32)),
 .o (.mv 8 (.c (.i 1))),
 .o (.mv 33 (.t 6)),
 .o (.bin 34 .shl 3 (.c (.i 1)) (.t 33)),
 .o (.bin 35 .sub 3 (.t 34) (.c (.i 1))),
 .o (.mv 36 (.t 7)),
 .o (.bin 37 .mul 3 (.t 35) (.t 36)),
 .o (.mv 9 (.t 37)),
 .blk 0 [.lp [.o (.mv 38 (.t 9)),
   .o (.mv 39 (.t 8)),
   .o (.mv 40 (.t 6)),
   .o (.bin 41 .mul 3 (.t 39) (.t 40)),
   .o (.bin 42 .shr 3 (.t 38) (.t 41)),
   .o (.bin 43 .gtr 3 (.t 42) (.c (.i 0))),
   .ite (.t 43) []
    [.ex 0],
   .blk 1 [.o (.mv 44 (.t 8)),
    .o (.bin 45 .add 3 (.t 44) (.c (.i 1))),
    .o (.mv 8 (.t 45))]]],
 .o (.mv 46 (.t 0)),
 .o (.mv 47 (.t 4)),
 .o (.mv 48 (.t 5)),
 .o (.mv 49 (.t 6)),
 .o (.mv 50 (.t 7)),
 .o (.mv 51 (.t 8)),
 .o (.bin 52 .add 3 (.t 50) (.t 51)),
 .o (.mv 53 (.t 8)),
 .o (.mv 54 (.t 6)),
 .o (.bin 55 .mul 3 (.t 53) (.t 54)),
 .o (.bin 56 .sub 3 (.c (.i 16)) (.t 55)),
 .o (.bld 57 27 [(0, (.t 46)), (1, (.t 47)), (2, (.t 48)), (3, (.t 49)), (4, (.t 52)), (5, (.t 56))]),
 .o (.st 27 (.t 2) (.t 57)),
 .o (.mv 3 (.c (.i 0))),
 .ret]
theorem cc178 : Tryd.f178.body.map cc = some c178 := by kernel_rfl
theorem rs178 : Tryd.f178.results.toList.map cRS = [.c 2 27, .t 3] := by kernel_rfl
-- FN 193 livery/param.Xmss ntmps 59 params #[22]
def c193 : List C := [.o (.al 2 60),
 .o (.mv 3 (.c (.i 0))),
 .o (.mv 11 (.t 0)),
 .o (.call 12 (.f 231) [(.t 11), (.c (.u32 4043309056))]),
 .o (.mv 10 (.t 12)),
 .o (.ext 13 (.t 10) 0),
 .o (.ext 14 (.t 10) 1),
 .o (.ext 15 (.t 10) 2),
 .o (.mv 4 (.t 13)),
 .o (.mv 5 (.t 14)),
 .o (.mv 6 (.t 15)),
 .blk 0 [.o (.mv 17 (.t 0)),
  .o (.bin 18 .geq 22 (.t 17) (.c (.u32 1))),
  .o (.mv 19 (.t 18)),
  .o (.gd 19 true (.mv 20 (.t 0))),
  .o (.gd 19 true (.bin 21 .leq 22 (.t 20) (.c (.u32 3)))),
  .o (.pick 22 (.t 19) (.t 21) (.c (.b false))),
  .o (.mv 16 (.t 22)),
  .ite (.t 16) [.o (.mv 23 (.t 0)),
   .o (.bin 24 .sub 22 (.t 23) (.c (.u32 1))),
   .o (.cv 25 22 3 (.t 24)),
   .o (.call 26 (.f 232) [(.t 25)]),
   .o (.mv 4 (.c (.i 0))),
   .o (.mv 5 (.t 26)),
   .o (.mv 6 (.c (.b true)))]
   [.o (.mv 28 (.t 0)),
   .o (.bin 29 .geq 22 (.t 28) (.c (.u32 13))),
   .o (.mv 30 (.t 29)),
   .o (.gd 30 true (.mv 31 (.t 0))),
   .o (.gd 30 true (.bin 32 .leq 22 (.t 31) (.c (.u32 21)))),
   .o (.pick 33 (.t 30) (.t 32) (.c (.b false))),
   .o (.mv 27 (.t 33)),
   .ite (.t 27) [.o (.mv 34 (.t 0)),
    .o (.bin 35 .sub 22 (.t 34) (.c (.u32 13))),
    .o (.cv 36 22 3 (.t 35)),
    .o (.mv 7 (.t 36)),
    .o (.mv 37 (.t 7)),
    .o (.bin 38 .quo 3 (.t 37) (.c (.i 3))),
    .o (.bin 39 .add 3 (.c (.i 1)) (.t 38)),
    .o (.mv 40 (.t 7)),
    .o (.bin 41 .rem 3 (.t 40) (.c (.i 3))),
    .o (.call 42 (.f 232) [(.t 41)]),
    .o (.mv 4 (.t 39)),
    .o (.mv 5 (.t 42)),
    .o (.mv 6 (.c (.b true)))]
    []]],
 .o (.mv 43 (.t 6)),
 .o (.un 44 .not (.t 43)),
 .ite (.t 44) [.o (.bld 45 60 []),
  .o (.st 60 (.t 2) (.t 45)),
  .o (.mv 3 (.c (.i 60))),
  .ret]
  [],
 .o (.mv 47 (.t 4)),
 .o (.call 48 (.f 218) [(.t 47)]),
 .o (.mv 46 (.t 48)),
 .o (.ext 49 (.t 46) 0),
 .o (.ext 50 (.t 46) 1),
 .o (.mv 8 (.t 49)),
 .o (.mv 9 (.t 50)),
 .o (.mv 51 (.t 0)),
 .o (.mv 52 (.t 8)),
 .o (.mv 53 (.t 9)),
 .o (.mv 54 (.t 5)),
 .o (.mv 55 (.t 9)),
 .o (.bin 56 .mul 3 (.c (.i 2)) (.t 55)),
 .o (.bin 57 .add 3 (.t 56) (.c (.i 3))),
 .o (.bld 58 60 [(0, (.t 51)), (1, (.t 52)), (2, (.t 53)), (3, (.t 54)), (4, (.t 57))]),
 .o (.st 60 (.t 2) (.t 58)),
 .o (.mv 3 (.c (.i 0))),
 .ret]
theorem cc193 : Tryd.f193.body.map cc = some c193 := by kernel_rfl
theorem rs193 : Tryd.f193.results.toList.map cRS = [.c 2 60, .t 3] := by kernel_rfl
-- FN 200 livery/param.isOts ntmps 18 params #[27]
def c200 : List C := [.o (.bx 1 27 (.t 0)),
 .o (.mv 2 (.c (.b false))),
 .o (.fa 6 27 (.t 1) 0),
 .o (.ld 7 22 (.t 6)),
 .o (.call 8 (.f 178) [(.t 7)]),
 .o (.mv 5 (.t 8)),
 .o (.ext 9 (.t 5) 0),
 .o (.ext 10 (.t 5) 1),
 .o (.al 3 27),
 .o (.st 27 (.t 3) (.t 9)),
 .o (.mv 4 (.t 10)),
 .o (.mv 11 (.t 4)),
 .o (.bin 12 .eql 40 (.t 11) (.c (.i 0))),
 .o (.mv 13 (.t 12)),
 .o (.gd 13 true (.ld 14 27 (.t 3))),
 .o (.gd 13 true (.ld 15 27 (.t 1))),
 .o (.gd 13 true (.bin 16 .eql 27 (.t 14) (.t 15))),
 .o (.pick 17 (.t 13) (.t 16) (.c (.b false))),
 .o (.mv 2 (.t 17)),
 .ret]
theorem cc200 : Tryd.f200.body.map cc = some c200 := by kernel_rfl
theorem rs200 : Tryd.f200.results.toList.map cRS = [.t 2] := by kernel_rfl
-- FN 201 livery/param.Lms ntmps 44 params #[22]
def c201 : List C := [.o (.al 2 113),
 .o (.mv 3 (.c (.i 0))),
 .o (.mv 11 (.t 0)),
 .o (.call 12 (.f 231) [(.t 11), (.c (.u32 4026531840))]),
 .o (.mv 10 (.t 12)),
 .o (.ext 13 (.t 10) 0),
 .o (.ext 14 (.t 10) 1),
 .o (.ext 15 (.t 10) 2),
 .o (.mv 4 (.t 13)),
 .o (.mv 5 (.t 14)),
 .o (.mv 6 (.t 15)),
 .o (.mv 16 (.t 0)),
 .o (.bin 17 .geq 22 (.t 16) (.c (.u32 5))),
 .o (.mv 18 (.t 17)),
 .o (.gd 18 true (.mv 19 (.t 0))),
 .o (.gd 18 true (.bin 20 .leq 22 (.t 19) (.c (.u32 24)))),
 .o (.pick 21 (.t 18) (.t 20) (.c (.b false))),
 .ite (.t 21) [.o (.mv 22 (.t 0)),
  .o (.bin 23 .sub 22 (.t 22) (.c (.u32 5))),
  .o (.cv 24 22 3 (.t 23)),
  .o (.mv 7 (.t 24)),
  .o (.mv 25 (.t 7)),
  .o (.bin 26 .quo 3 (.t 25) (.c (.i 5))),
  .o (.mv 27 (.t 7)),
  .o (.bin 28 .rem 3 (.t 27) (.c (.i 5))),
  .o (.bin 29 .add 3 (.t 28) (.c (.i 1))),
  .o (.bin 30 .mul 3 (.c (.i 5)) (.t 29)),
  .o (.mv 4 (.t 26)),
  .o (.mv 5 (.t 30)),
  .o (.mv 6 (.c (.b true)))]
  [],
 .o (.mv 31 (.t 6)),
 .o (.un 32 .not (.t 31)),
 .ite (.t 32) [.o (.bld 33 113 []),
  .o (.st 113 (.t 2) (.t 33)),
  .o (.mv 3 (.c (.i 60))),
  .ret]
  [],
 .o (.mv 35 (.t 4)),
 .o (.call 36 (.f 218) [(.t 35)]),
 .o (.mv 34 (.t 36)),
 .o (.ext 37 (.t 34) 0),
 .o (.ext 38 (.t 34) 1),
 .o (.mv 8 (.t 37)),
 .o (.mv 9 (.t 38)),
 .o (.mv 39 (.t 0)),
 .o (.mv 40 (.t 8)),
 .o (.mv 41 (.t 9)),
 .o (.mv 42 (.t 5)),
 .o (.bld 43 113 [(0, (.t 39)), (1, (.t 40)), (2, (.t 41)), (3, (.t 42))]),
 .o (.st 113 (.t 2) (.t 43)),
 .o (.mv 3 (.c (.i 0))),
 .ret]
theorem cc201 : Tryd.f201.body.map cc = some c201 := by kernel_rfl
theorem rs201 : Tryd.f201.results.toList.map cRS = [.c 2 113, .t 3] := by kernel_rfl
-- FN 202 livery/param.Fit ntmps 25 params #[113, 27]
def c202 : List C := [.o (.bx 2 113 (.t 0)),
 .o (.bx 3 27 (.t 1)),
 .o (.mv 4 (.c (.b false))),
 .o (.ld 5 113 (.t 2)),
 .o (.call 6 (.f 234) [(.t 5)]),
 .o (.mv 7 (.t 6)),
 .o (.gd 7 true (.ld 8 27 (.t 3))),
 .o (.gd 7 true (.call 9 (.f 200) [(.t 8)])),
 .o (.pick 10 (.t 7) (.t 9) (.c (.b false))),
 .o (.mv 11 (.t 10)),
 .o (.gd 11 true (.fa 12 113 (.t 2) 1)),
 .o (.gd 11 true (.ld 13 4 (.t 12))),
 .o (.gd 11 true (.fa 14 27 (.t 3) 1)),
 .o (.gd 11 true (.ld 15 4 (.t 14))),
 .o (.gd 11 true (.bin 16 .eql 4 (.t 13) (.t 15))),
 .o (.pick 17 (.t 11) (.t 16) (.c (.b false))),
 .o (.mv 18 (.t 17)),
 .o (.gd 18 true (.fa 19 113 (.t 2) 2)),
 .o (.gd 18 true (.ld 20 3 (.t 19))),
 .o (.gd 18 true (.fa 21 27 (.t 3) 2)),
 .o (.gd 18 true (.ld 22 3 (.t 21))),
 .o (.gd 18 true (.bin 23 .eql 3 (.t 20) (.t 22))),
 .o (.pick 24 (.t 18) (.t 23) (.c (.b false))),
 .o (.mv 4 (.t 24)),
 .ret]
theorem cc202 : Tryd.f202.body.map cc = some c202 := by kernel_rfl
theorem rs202 : Tryd.f202.results.toList.map cRS = [.t 4] := by kernel_rfl
-- FN 215 livery/param.LmsPub ntmps 9 params #[113]
def c215 : List C := [.o (.bx 1 113 (.t 0)),
 .o (.mv 2 (.c (.i 0))),
 .o (.ld 3 113 (.t 1)),
 .o (.call 4 (.f 234) [(.t 3)]),
 .o (.un 5 .not (.t 4)),
 .ite (.t 5) [.o (.mv 2 (.c (.i 0))),
  .ret]
  [],
 .o (.fa 6 113 (.t 1) 2),
 .o (.ld 7 3 (.t 6)),
 .o (.bin 8 .add 3 (.c (.i 24)) (.t 7)),
 .o (.mv 2 (.t 8)),
 .ret]
theorem cc215 : Tryd.f215.body.map cc = some c215 := by kernel_rfl
theorem rs215 : Tryd.f215.results.toList.map cRS = [.t 2] := by kernel_rfl
-- FN 218 livery/param.hashed ntmps 13 params #[3]
def c218 : List C := [.o (.mv 2 (.c (.b false))),
 .o (.mv 3 (.c (.i 0))),
 .o (.mv 3 (.c (.i 32))),
 .o (.mv 4 (.t 0)),
 .blk 0 [.blk 3 [.blk 2 [.blk 1 [.o (.bin 6 .eql 3 (.t 4) (.c (.i 3))),
     .o (.mv 5 (.t 6)),
     .ite (.t 5) [.ex 1]
      [],
     .o (.bin 8 .eql 3 (.t 4) (.c (.i 2))),
     .o (.mv 7 (.t 8)),
     .ite (.t 7) [.ex 2]
      [],
     .o (.bin 10 .eql 3 (.t 4) (.c (.i 1))),
     .o (.mv 9 (.t 10)),
     .ite (.t 9) [.ex 3]
      [],
     .ex 0],
    .o (.mv 3 (.c (.i 24)))],
   .o (.mv 2 (.c (.b true))),
   .ex 0],
  .o (.mv 3 (.c (.i 24))),
  .ex 0],
 .o (.mv 11 (.t 2)),
 .o (.mv 12 (.t 3)),
 .o (.mv 2 (.t 11)),
 .o (.mv 3 (.t 12)),
 .ret]
theorem cc218 : Tryd.f218.body.map cc = some c218 := by kernel_rfl
theorem rs218 : Tryd.f218.results.toList.map cRS = [.t 2, .t 3] := by kernel_rfl
-- FN 231 livery/param.own ntmps 33 params #[22, 22]
def c231 : List C := [.o (.mv 4 (.c (.i 0))),
 .o (.mv 5 (.c (.i 0))),
 .o (.mv 6 (.c (.b false))),
 .o (.mv 9 (.t 0)),
 .o (.mv 10 (.t 1)),
 .o (.bin 11 .lss 22 (.t 9) (.t 10)),
 .o (.mv 12 (.t 11)),
 .o (.gd 12 false (.mv 13 (.t 0))),
 .o (.gd 12 false (.mv 14 (.t 1))),
 .o (.gd 12 false (.bin 15 .add 22 (.t 14) (.c (.u32 64)))),
 .o (.gd 12 false (.bin 16 .geq 22 (.t 13) (.t 15))),
 .o (.pick 17 (.t 12) (.c (.b true)) (.t 16)),
 .ite (.t 17) [.o (.mv 4 (.c (.i 0))),
  .o (.mv 5 (.c (.i 0))),
  .o (.mv 6 (.c (.b false))),
  .ret]
  [],
 .o (.mv 18 (.t 0)),
 .o (.mv 19 (.t 1)),
 .o (.bin 20 .sub 22 (.t 18) (.t 19)),
 .o (.cv 21 22 3 (.t 20)),
 .o (.mv 7 (.t 21)),
 .o (.mv 22 (.t 7)),
 .o (.bin 23 .rem 3 (.t 22) (.c (.i 16))),
 .o (.mv 8 (.t 23)),
 .o (.mv 24 (.t 7)),
 .o (.bin 25 .quo 3 (.t 24) (.c (.i 16))),
 .o (.mv 26 (.t 8)),
 .o (.mv 27 (.t 8)),
 .o (.bin 28 .geq 3 (.t 27) (.c (.i 1))),
 .o (.mv 29 (.t 28)),
 .o (.gd 29 true (.mv 30 (.t 8))),
 .o (.gd 29 true (.bin 31 .leq 3 (.t 30) (.c (.i 4)))),
 .o (.pick 32 (.t 29) (.t 31) (.c (.b false))),
 .o (.mv 4 (.t 25)),
 .o (.mv 5 (.t 26)),
 .o (.mv 6 (.t 32)),
 .ret]
theorem cc231 : Tryd.f231.body.map cc = some c231 := by kernel_rfl
theorem rs231 : Tryd.f231.results.toList.map cRS = [.t 4, .t 5, .t 6] := by kernel_rfl
-- FN 232 livery/param.height ntmps 8 params #[3]
def c232 : List C := [.o (.mv 2 (.c (.i 0))),
 .o (.mv 3 (.t 0)),
 .blk 0 [.o (.bin 5 .eql 3 (.t 3) (.c (.i 0))),
  .o (.mv 4 (.t 5)),
  .ite (.t 4) [.o (.mv 2 (.c (.i 10))),
   .ret]
   [.o (.bin 7 .eql 3 (.t 3) (.c (.i 1))),
   .o (.mv 6 (.t 7)),
   .ite (.t 6) [.o (.mv 2 (.c (.i 16))),
    .ret]
    []]],
 .o (.mv 2 (.c (.i 20))),
 .ret]
theorem cc232 : Tryd.f232.body.map cc = some c232 := by kernel_rfl
theorem rs232 : Tryd.f232.results.toList.map cRS = [.t 2] := by kernel_rfl
-- FN 234 livery/param.isLms ntmps 18 params #[113]
def c234 : List C := [.o (.bx 1 113 (.t 0)),
 .o (.mv 2 (.c (.b false))),
 .o (.fa 6 113 (.t 1) 0),
 .o (.ld 7 22 (.t 6)),
 .o (.call 8 (.f 201) [(.t 7)]),
 .o (.mv 5 (.t 8)),
 .o (.ext 9 (.t 5) 0),
 .o (.ext 10 (.t 5) 1),
 .o (.al 3 113),
 .o (.st 113 (.t 3) (.t 9)),
 .o (.mv 4 (.t 10)),
 .o (.mv 11 (.t 4)),
 .o (.bin 12 .eql 40 (.t 11) (.c (.i 0))),
 .o (.mv 13 (.t 12)),
 .o (.gd 13 true (.ld 14 113 (.t 3))),
 .o (.gd 13 true (.ld 15 113 (.t 1))),
 .o (.gd 13 true (.bin 16 .eql 113 (.t 14) (.t 15))),
 .o (.pick 17 (.t 13) (.t 16) (.c (.b false))),
 .o (.mv 2 (.t 17)),
 .ret]
theorem cc234 : Tryd.f234.body.map cc = some c234 := by kernel_rfl
theorem rs234 : Tryd.f234.results.toList.map cRS = [.t 2] := by kernel_rfl
end Go.Lv

namespace Go.Lv
open Go Go.Proofs
set_option maxRecDepth 100000
-- FN 30 livery/liveryref01.Equal ntmps 10 params #[25, 25]
def c30 : List C := [.o (.mv 4 (.c (.b false))),
 .o (.mv 5 (.t 0)),
 .o (.cv 6 25 9 (.t 5)),
 .o (.mv 7 (.t 1)),
 .o (.cv 8 25 9 (.t 7)),
 .o (.bin 9 .eql 9 (.t 6) (.t 8)),
 .o (.mv 4 (.t 9)),
 .ret]
theorem cc30 : Tryd.f30.body.map cc = some c30 := by kernel_rfl
theorem rs30 : Tryd.f30.results.toList.map cRS = [.t 4] := by kernel_rfl
-- FN 32 livery/liveryref01.Join ntmps 18 params #[23]
def c32 : List C := [.o (.mv 2 (.c .nils)),
 .o (.bsl 6 25 0 []),
 .o (.mv 3 (.t 6)),
 .o (.mv 7 (.t 0)),
 .o (.len 8 23 (.t 7)),
 .o (.mv 9 (.c (.i 0))),
 .blk 0 [.lp [.o (.bin 10 .lss 3 (.t 9) (.t 8)),
   .ite (.t 10) []
    [.ex 0],
   .blk 1 [.o (.ia 11 23 (.t 7) (.t 9)),
    .o (.ld 12 25 (.t 11)),
    .o (.mv 5 (.t 12)),
    .o (.mv 13 (.t 3)),
    .o (.mv 14 (.t 5)),
    .o (.app 15 25 25 (.t 13) (.t 14)),
    .o (.mv 3 (.t 15))],
   .o (.bin 16 .add 3 (.t 9) (.c (.i 1))),
   .o (.mv 9 (.t 16))]],
 .o (.mv 17 (.t 3)),
 .o (.mv 2 (.t 17)),
 .ret]
theorem cc32 : Tryd.f32.body.map cc = some c32 := by kernel_rfl
theorem rs32 : Tryd.f32.results.toList.map cRS = [.t 2] := by kernel_rfl
-- FN 113 livery/liveryref01.Big ntmps 24 params #[83, 3]
def c113 : List C := [.o (.mv 4 (.c .nils)),
 .o (.mv 7 (.t 1)),
 .o (.msl 8 25 (.t 7) (.t 7)),
 .o (.mv 5 (.t 8)),
 .o (.mv 9 (.t 1)),
 .o (.bin 10 .sub 3 (.t 9) (.c (.i 1))),
 .o (.mv 6 (.t 10)),
 .blk 0 [.lp [.o (.mv 11 (.t 6)),
   .o (.bin 12 .geq 3 (.t 11) (.c (.i 0))),
   .ite (.t 12) []
    [.ex 0],
   .blk 1 [.o (.mv 15 (.t 5)),
    .o (.mv 16 (.t 6)),
    .o (.mv 17 (.t 0)),
    .o (.bin 18 .rem 83 (.t 17) (.c (.u64 256))),
    .o (.cv 19 83 5 (.t 18)),
    .o (.ia 20 25 (.t 15) (.t 16)),
    .o (.st 5 (.t 20) (.t 19)),
    .o (.mv 21 (.t 0)),
    .o (.bin 22 .quo 83 (.t 21) (.c (.u64 256))),
    .o (.mv 0 (.t 22))],
   .o (.mv 13 (.t 6)),
   .o (.bin 14 .sub 3 (.t 13) (.c (.i 1))),
   .o (.mv 6 (.t 14))]],
 .o (.mv 23 (.t 5)),
 .o (.mv 4 (.t 23)),
 .ret]
theorem cc113 : Tryd.f113.body.map cc = some c113 := by kernel_rfl
theorem rs113 : Tryd.f113.results.toList.map cRS = [.t 4] := by kernel_rfl
-- FN 126 livery/liveryref01.Xor ntmps 34 params #[25, 25]
def c126 : List C := [.o (.mv 4 (.c .nils)),
 .o (.mv 9 (.t 0)),
 .o (.call 10 (.f 195) [(.t 9)]),
 .o (.mv 11 (.t 1)),
 .o (.call 12 (.f 195) [(.t 11)]),
 .o (.mv 5 (.t 10)),
 .o (.mv 6 (.t 12)),
 .o (.bsl 13 230 0 []),
 .o (.mv 7 (.t 13)),
 .o (.mv 14 (.t 5)),
 .o (.len 15 230 (.t 14)),
 .o (.mv 16 (.c (.i 0))),
 .blk 0 [.lp [.o (.bin 17 .lss 3 (.t 16) (.t 15)),
   .ite (.t 17) []
    [.ex 0],
   .blk 1 [.o (.mv 18 (.t 16)),
    .o (.mv 8 (.t 18)),
    .dr true 11 [.mv 19 (.t 7), .mv 20 (.t 5), .mv 21 (.t 8), .ia 22 230 (.t 20) (.t 21), .ld 23 4 (.t 22), .mv 24 (.t 6), .mv 25 (.t 8), .ia 26 230 (.t 24) (.t 25), .ld 27 4 (.t 26), .bin 28 .neq 4 (.t 23) (.t 27), .bsl 29 230 1 [(0, (.t 28))], .app 30 230 230 (.t 19) (.t 29), .mv 7 (.t 30)]],
   .o (.bin 31 .add 3 (.t 16) (.c (.i 1))),
   .o (.mv 16 (.t 31))]],
 .o (.mv 32 (.t 7)),
 .o (.call 33 (.f 196) [(.t 32)]),
 .o (.mv 4 (.t 33)),
 .ret]
theorem cc126 : Tryd.f126.body.map cc = some c126 := by kernel_rfl
theorem rs126 : Tryd.f126.results.toList.map cRS = [.t 4] := by kernel_rfl
-- FN 195 livery/liveryref01.Bits ntmps 29 params #[25]
def c195 : List C := [.o (.mv 2 (.c .nils)),
 .o (.bsl 7 230 0 []),
 .o (.mv 3 (.t 7)),
 .o (.mv 8 (.t 0)),
 .o (.len 9 25 (.t 8)),
 .o (.mv 10 (.c (.i 0))),
 .blk 0 [.lp [.o (.bin 11 .lss 3 (.t 10) (.t 9)),
   .ite (.t 11) []
    [.ex 0],
   .blk 1 [.o (.ia 12 25 (.t 8) (.t 10)),
    .o (.ld 13 5 (.t 12)),
    .o (.mv 5 (.t 13)),
    .o (.mv 14 (.t 5)),
    .o (.cv 15 5 3 (.t 14)),
    .o (.mv 6 (.t 15)),
    .o (.mv 16 (.c (.i 0))),
    .blk 2 [.lp [.o (.bin 17 .lss 3 (.t 16) (.c (.i 8))),
      .ite (.t 17) []
       [.ex 2],
      .blk 3 [.o (.mv 18 (.t 3)),
       .o (.mv 19 (.t 6)),
       .o (.bin 20 .rem 3 (.t 19) (.c (.i 2))),
       .o (.bin 21 .eql 3 (.t 20) (.c (.i 1))),
       .o (.bsl 22 230 1 [(0, (.t 21))]),
       .o (.app 23 230 230 (.t 18) (.t 22)),
       .o (.mv 3 (.t 23)),
       .o (.mv 24 (.t 6)),
       .o (.bin 25 .quo 3 (.t 24) (.c (.i 2))),
       .o (.mv 6 (.t 25))],
      .o (.bin 26 .add 3 (.t 16) (.c (.i 1))),
      .o (.mv 16 (.t 26))]]],
   .o (.bin 27 .add 3 (.t 10) (.c (.i 1))),
   .o (.mv 10 (.t 27))]],
 .o (.mv 28 (.t 3)),
 .o (.mv 2 (.t 28)),
 .ret]
theorem cc195 : Tryd.f195.body.map cc = some c195 := by kernel_rfl
theorem rs195 : Tryd.f195.results.toList.map cRS = [.t 2] := by kernel_rfl
-- FN 196 livery/liveryref01.FromBits ntmps 43 params #[230]
def c196 : List C := [.o (.mv 2 (.c .nils)),
 .o (.bsl 8 25 0 []),
 .o (.mv 3 (.t 8)),
 .o (.mv 4 (.c (.i 0))),
 .blk 0 [.lp [.o (.mv 9 (.t 4)),
   .o (.mv 10 (.t 0)),
   .o (.len 11 230 (.t 10)),
   .o (.bin 12 .lss 3 (.t 9) (.t 11)),
   .ite (.t 12) []
    [.ex 0],
   .blk 1 [.o (.mv 5 (.c (.i 0))),
    .o (.mv 6 (.c (.i 1))),
    .o (.mv 15 (.t 4)),
    .o (.mv 7 (.t 15)),
    .blk 2 [.lp [.o (.mv 16 (.t 7)),
      .o (.mv 17 (.t 4)),
      .o (.bin 18 .add 3 (.t 17) (.c (.i 8))),
      .o (.bin 19 .lss 3 (.t 16) (.t 18)),
      .o (.mv 20 (.t 19)),
      .o (.gd 20 true (.mv 21 (.t 7))),
      .o (.gd 20 true (.mv 22 (.t 0))),
      .o (.gd 20 true (.len 23 230 (.t 22))),
      .o (.gd 20 true (.bin 24 .lss 3 (.t 21) (.t 23))),
      .o (.pick 25 (.t 20) (.t 24) (.c (.b false))),
      .ite (.t 25) []
       [.ex 2],
      .blk 3 [.o (.mv 28 (.t 0)),
       .o (.mv 29 (.t 7)),
       .o (.ia 30 230 (.t 28) (.t 29)),
       .o (.ld 31 4 (.t 30)),
       .ite (.t 31) [.o (.mv 32 (.t 5)),
        .o (.mv 33 (.t 6)),
        .o (.bin 34 .add 3 (.t 32) (.t 33)),
        .o (.mv 5 (.t 34))]
        [],
       .o (.mv 35 (.t 6)),
       .o (.bin 36 .mul 3 (.t 35) (.c (.i 2))),
       .o (.mv 6 (.t 36))],
      .o (.mv 26 (.t 7)),
      .o (.bin 27 .add 3 (.t 26) (.c (.i 1))),
      .o (.mv 7 (.t 27))]],
    .o (.mv 37 (.t 3)),
    .o (.mv 38 (.t 5)),
    .o (.cv 39 3 5 (.t 38)),
    .o (.bsl 40 25 1 [(0, (.t 39))]),
    .o (.app 41 25 25 (.t 37) (.t 40)),
    .o (.mv 3 (.t 41))],
   .o (.mv 13 (.t 4)),
   .o (.bin 14 .add 3 (.t 13) (.c (.i 8))),
   .o (.mv 4 (.t 14))]],
 .o (.mv 42 (.t 3)),
 .o (.mv 2 (.t 42)),
 .ret]
theorem cc196 : Tryd.f196.body.map cc = some c196 := by kernel_rfl
theorem rs196 : Tryd.f196.results.toList.map cRS = [.t 2] := by kernel_rfl
-- FN 240 livery/liveryref01.Number ntmps 19 params #[25]
def c240 : List C := [.o (.mv 2 (.c (.u64 0))),
 .o (.mv 3 (.c (.u64 0))),
 .o (.mv 6 (.t 0)),
 .o (.len 7 25 (.t 6)),
 .o (.mv 8 (.c (.i 0))),
 .blk 0 [.lp [.o (.bin 9 .lss 3 (.t 8) (.t 7)),
   .ite (.t 9) []
    [.ex 0],
   .blk 1 [.o (.ia 10 25 (.t 6) (.t 8)),
    .o (.ld 11 5 (.t 10)),
    .o (.mv 5 (.t 11)),
    .o (.mv 12 (.t 3)),
    .o (.bin 13 .mul 83 (.t 12) (.c (.u64 256))),
    .o (.mv 14 (.t 5)),
    .o (.cv 15 5 83 (.t 14)),
    .o (.bin 16 .add 83 (.t 13) (.t 15)),
    .o (.mv 3 (.t 16))],
   .o (.bin 17 .add 3 (.t 8) (.c (.i 1))),
   .o (.mv 8 (.t 17))]],
 .o (.mv 18 (.t 3)),
 .o (.mv 2 (.t 18)),
 .ret]
theorem cc240 : Tryd.f240.body.map cc = some c240 := by kernel_rfl
theorem rs240 : Tryd.f240.results.toList.map cRS = [.t 2] := by kernel_rfl
end Go.Lv

namespace Go.Lv
open Go Go.Proofs
set_option maxRecDepth 100000
-- FN 29 livery/liveryref06.MayOts ntmps 18 params #[27]
def c29 : List C := [.o (.bx 1 27 (.t 0)),
 .o (.mv 2 (.c (.b false))),
 .o (.fa 6 27 (.t 1) 0),
 .o (.ld 7 22 (.t 6)),
 .o (.call 8 (.f 100) [(.t 7)]),
 .o (.mv 5 (.t 8)),
 .o (.ext 9 (.t 5) 0),
 .o (.ext 10 (.t 5) 1),
 .o (.al 3 27),
 .o (.st 27 (.t 3) (.t 9)),
 .o (.mv 4 (.t 10)),
 .o (.mv 11 (.t 4)),
 .o (.bin 12 .eql 40 (.t 11) (.c (.i 0))),
 .o (.mv 13 (.t 12)),
 .o (.gd 13 true (.ld 14 27 (.t 3))),
 .o (.gd 13 true (.ld 15 27 (.t 1))),
 .o (.gd 13 true (.bin 16 .eql 27 (.t 14) (.t 15))),
 .o (.pick 17 (.t 13) (.t 16) (.c (.b false))),
 .o (.mv 2 (.t 17)),
 .ret]
theorem cc29 : Tryd.f29.body.map cc = some c29 := by kernel_rfl
theorem rs29 : Tryd.f29.results.toList.map cRS = [.t 2] := by kernel_rfl
-- FN 83 livery/liveryref06.OtsLen ntmps 13 params #[27]
def c83 : List C := [.o (.bx 1 27 (.t 0)),
 .o (.mv 2 (.c (.i 0))),
 .o (.ld 3 27 (.t 1)),
 .o (.call 4 (.f 29) [(.t 3)]),
 .o (.un 5 .not (.t 4)),
 .ite (.t 5) [.o (.mv 2 (.c (.i 0))),
  .ret]
  [],
 .o (.fa 6 27 (.t 1) 2),
 .o (.ld 7 3 (.t 6)),
 .o (.fa 8 27 (.t 1) 4),
 .o (.ld 9 3 (.t 8)),
 .o (.bin 10 .add 3 (.t 9) (.c (.i 1))),
 .o (.bin 11 .mul 3 (.t 7) (.t 10)),
 .o (.bin 12 .add 3 (.c (.i 4)) (.t 11)),
 .o (.mv 2 (.t 12)),
 .ret]
theorem cc83 : Tryd.f83.body.map cc = some c83 := by kernel_rfl
theorem rs83 : Tryd.f83.results.toList.map cRS = [.t 2] := by kernel_rfl
-- FN 100 livery/liveryref06.Ots ntmps 52 params #[22]
def c100 : List C := [.o (.al 2 27),
 .o (.mv 3 (.c (.i 0))),
 .o (.mv 9 (.t 0)),
 .o (.bin 10 .lss 22 (.t 9) (.c (.u32 1))),
 .o (.mv 11 (.t 10)),
 .o (.gd 11 false (.mv 12 (.t 0))),
 .o (.gd 11 false (.bin 13 .gtr 22 (.t 12) (.c (.u32 16)))),
 .o (.pick 14 (.t 11) (.c (.b true)) (.t 13)),
 .ite (.t 14) [.o (.bld 15 27 []),
  .o (.st 27 (.t 2) (.t 15)),
  .o (.mv 3 (.c (.i 60))),
  .ret]
  [],
 .o (.mv 16 (.t 0)),
 .o (.bin 17 .sub 22 (.t 16) (.c (.u32 1))),
 .o (.cv 18 22 3 (.t 17)),
 .o (.bin 19 .quo 3 (.t 18) (.c (.i 4))),
 .o (.mv 4 (.t 19)),
 .o (.mv 20 (.t 4)),
 .o (.call 21 (.f 173) [(.t 20)]),
 .o (.mv 22 (.t 0)),
 .o (.bin 23 .sub 22 (.t 22) (.c (.u32 1))),
 .o (.cv 24 22 3 (.t 23)),
 .o (.bin 25 .rem 3 (.t 24) (.c (.i 4))),
 .o (.call 26 (.f 174) [(.t 25)]),
 .o (.mv 5 (.t 21)),
 .o (.mv 6 (.t 26)),
 .o (.mv 27 (.t 5)),
 .o (.bin 28 .mul 3 (.c (.i 8)) (.t 27)),
 .o (.mv 29 (.t 6)),
 .o (.bin 30 .quo 3 (.t 28) (.t 29)),
 .o (.mv 7 (.t 30)),
 .o (.mv 31 (.t 6)),
 .o (.call 32 (.f 174) [(.t 31)]),
 .o (.bin 33 .sub 3 (.t 32) (.c (.i 1))),
 .o (.mv 34 (.t 7)),
 .o (.bin 35 .mul 3 (.t 33) (.t 34)),
 .o (.call 36 (.f 176) [(.t 35)]),
 .o (.mv 37 (.t 6)),
 .o (.call 38 (.f 175) [(.t 36), (.t 37)]),
 .o (.mv 8 (.t 38)),
 .o (.mv 39 (.t 0)),
 .o (.mv 40 (.t 4)),
 .o (.bin 41 .geq 3 (.t 40) (.c (.i 2))),
 .o (.mv 42 (.t 5)),
 .o (.mv 43 (.t 6)),
 .o (.mv 44 (.t 7)),
 .o (.mv 45 (.t 8)),
 .o (.bin 46 .add 3 (.t 44) (.t 45)),
 .o (.mv 47 (.t 8)),
 .o (.mv 48 (.t 6)),
 .o (.bin 49 .mul 3 (.t 47) (.t 48)),
 .o (.bin 50 .sub 3 (.c (.i 16)) (.t 49)),
 .o (.bld 51 27 [(0, (.t 39)), (1, (.t 41)), (2, (.t 42)), (3, (.t 43)), (4, (.t 46)), (5, (.t 50))]),
 .o (.st 27 (.t 2) (.t 51)),
 .o (.mv 3 (.c (.i 0))),
 .ret]
theorem cc100 : Tryd.f100.body.map cc = some c100 := by kernel_rfl
theorem rs100 : Tryd.f100.results.toList.map cRS = [.c 2 27, .t 3] := by kernel_rfl
-- FN 121 livery/liveryref06.Xmss ntmps 58 params #[22]
def c121 : List C := [.o (.al 2 60),
 .o (.mv 3 (.c (.i 0))),
 .o (.mv 10 (.t 0)),
 .o (.call 11 (.f 192) [(.t 10), (.c (.u32 4043309056))]),
 .o (.mv 9 (.t 11)),
 .o (.ext 12 (.t 9) 0),
 .o (.ext 13 (.t 9) 1),
 .o (.ext 14 (.t 9) 2),
 .o (.mv 4 (.t 12)),
 .o (.mv 5 (.t 13)),
 .o (.mv 6 (.t 14)),
 .o (.bsl 15 70 3 [(0, (.c (.i 10))), (1, (.c (.i 16))), (2, (.c (.i 20)))]),
 .o (.mv 7 (.t 15)),
 .o (.mv 16 (.t 0)),
 .o (.bin 17 .geq 22 (.t 16) (.c (.u32 1))),
 .o (.mv 18 (.t 17)),
 .o (.gd 18 true (.mv 19 (.t 0))),
 .o (.gd 18 true (.bin 20 .leq 22 (.t 19) (.c (.u32 3)))),
 .o (.pick 21 (.t 18) (.t 20) (.c (.b false))),
 .ite (.t 21) [.dr true 6 [.mv 22 (.t 7), .mv 23 (.t 0), .bin 24 .sub 22 (.t 23) (.c (.u32 1)), .ia 25 70 (.t 22) (.t 24), .ld 26 3 (.t 25), .mv 4 (.c (.i 0)), .mv 5 (.t 26), .mv 6 (.c (.b true))]]
  [],
 .o (.mv 27 (.t 0)),
 .o (.bin 28 .geq 22 (.t 27) (.c (.u32 13))),
 .o (.mv 29 (.t 28)),
 .o (.gd 29 true (.mv 30 (.t 0))),
 .o (.gd 29 true (.bin 31 .leq 22 (.t 30) (.c (.u32 21)))),
 .o (.pick 32 (.t 29) (.t 31) (.c (.b false))),
 .ite (.t 32) [.dr true 12 [.mv 33 (.t 0), .bin 34 .sub 22 (.t 33) (.c (.u32 13)), .cv 35 22 3 (.t 34), .bin 36 .quo 3 (.t 35) (.c (.i 3)), .bin 37 .add 3 (.c (.i 1)) (.t 36), .mv 38 (.t 7), .mv 39 (.t 0), .bin 40 .sub 22 (.t 39) (.c (.u32 13)), .bin 41 .rem 22 (.t 40) (.c (.u32 3)), .ia 42 70 (.t 38) (.t 41), .ld 43 3 (.t 42), .mv 4 (.t 37), .mv 5 (.t 43), .mv 6 (.c (.b true))]]
  [],
 .o (.mv 44 (.t 6)),
 .o (.un 45 .not (.t 44)),
 .ite (.t 45) [.o (.bld 46 60 []),
  .o (.st 60 (.t 2) (.t 46)),
  .o (.mv 3 (.c (.i 60))),
  .ret]
  [],
 .o (.mv 47 (.t 4)),
 .o (.call 48 (.f 173) [(.t 47)]),
 .o (.mv 8 (.t 48)),
 .o (.mv 49 (.t 0)),
 .o (.mv 50 (.t 4)),
 .o (.bin 51 .geq 3 (.t 50) (.c (.i 2))),
 .o (.mv 52 (.t 8)),
 .o (.mv 53 (.t 5)),
 .o (.mv 54 (.t 8)),
 .o (.bin 55 .mul 3 (.c (.i 2)) (.t 54)),
 .o (.bin 56 .add 3 (.t 55) (.c (.i 3))),
 .o (.bld 57 60 [(0, (.t 49)), (1, (.t 51)), (2, (.t 52)), (3, (.t 53)), (4, (.t 56))]),
 .o (.st 60 (.t 2) (.t 57)),
 .o (.mv 3 (.c (.i 0))),
 .ret]
theorem cc121 : Tryd.f121.body.map cc = some c121 := by kernel_rfl
theorem rs121 : Tryd.f121.results.toList.map cRS = [.c 2 60, .t 3] := by kernel_rfl
-- FN 124 livery/liveryref06.MayXmss ntmps 18 params #[60]
def c124 : List C := [.o (.bx 1 60 (.t 0)),
 .o (.mv 2 (.c (.b false))),
 .o (.fa 6 60 (.t 1) 0),
 .o (.ld 7 22 (.t 6)),
 .o (.call 8 (.f 121) [(.t 7)]),
 .o (.mv 5 (.t 8)),
 .o (.ext 9 (.t 5) 0),
 .o (.ext 10 (.t 5) 1),
 .o (.al 3 60),
 .o (.st 60 (.t 3) (.t 9)),
 .o (.mv 4 (.t 10)),
 .o (.mv 11 (.t 4)),
 .o (.bin 12 .eql 40 (.t 11) (.c (.i 0))),
 .o (.mv 13 (.t 12)),
 .o (.gd 13 true (.ld 14 60 (.t 1))),
 .o (.gd 13 true (.ld 15 60 (.t 3))),
 .o (.gd 13 true (.bin 16 .eql 60 (.t 14) (.t 15))),
 .o (.pick 17 (.t 13) (.t 16) (.c (.b false))),
 .o (.mv 2 (.t 17)),
 .ret]
theorem cc124 : Tryd.f124.body.map cc = some c124 := by kernel_rfl
theorem rs124 : Tryd.f124.results.toList.map cRS = [.t 2] := by kernel_rfl
-- FN 159 livery/liveryref06.Fit ntmps 25 params #[113, 27]
def c159 : List C := [.o (.bx 2 113 (.t 0)),
 .o (.bx 3 27 (.t 1)),
 .o (.mv 4 (.c (.b false))),
 .o (.ld 5 113 (.t 2)),
 .o (.call 6 (.f 210) [(.t 5)]),
 .o (.mv 7 (.t 6)),
 .o (.gd 7 true (.ld 8 27 (.t 3))),
 .o (.gd 7 true (.call 9 (.f 29) [(.t 8)])),
 .o (.pick 10 (.t 7) (.t 9) (.c (.b false))),
 .o (.mv 11 (.t 10)),
 .o (.gd 11 true (.fa 12 113 (.t 2) 1)),
 .o (.gd 11 true (.ld 13 4 (.t 12))),
 .o (.gd 11 true (.fa 14 27 (.t 3) 1)),
 .o (.gd 11 true (.ld 15 4 (.t 14))),
 .o (.gd 11 true (.bin 16 .eql 4 (.t 13) (.t 15))),
 .o (.pick 17 (.t 11) (.t 16) (.c (.b false))),
 .o (.mv 18 (.t 17)),
 .o (.gd 18 true (.fa 19 113 (.t 2) 2)),
 .o (.gd 18 true (.ld 20 3 (.t 19))),
 .o (.gd 18 true (.fa 21 27 (.t 3) 2)),
 .o (.gd 18 true (.ld 22 3 (.t 21))),
 .o (.gd 18 true (.bin 23 .eql 3 (.t 20) (.t 22))),
 .o (.pick 24 (.t 18) (.t 23) (.c (.b false))),
 .o (.mv 4 (.t 24)),
 .ret]
theorem cc159 : Tryd.f159.body.map cc = some c159 := by kernel_rfl
theorem rs159 : Tryd.f159.results.toList.map cRS = [.t 4] := by kernel_rfl
-- FN 173 livery/liveryref06.bytes ntmps 6 params #[3]
def c173 : List C := [.o (.mv 2 (.c (.i 0))),
 .o (.mv 3 (.t 0)),
 .o (.bin 4 .rem 3 (.t 3) (.c (.i 2))),
 .o (.bin 5 .eql 3 (.t 4) (.c (.i 1))),
 .ite (.t 5) [.o (.mv 2 (.c (.i 24))),
  .ret]
  [],
 .o (.mv 2 (.c (.i 32))),
 .ret]
theorem cc173 : Tryd.f173.body.map cc = some c173 := by kernel_rfl
theorem rs173 : Tryd.f173.results.toList.map cRS = [.t 2] := by kernel_rfl
-- FN 174 livery/liveryref06.power ntmps 11 params #[3]
def c174 : List C := [.o (.mv 2 (.c (.i 0))),
 .o (.mv 3 (.c (.i 1))),
 .o (.mv 4 (.t 0)),
 .o (.mv 5 (.c (.i 0))),
 .blk 0 [.lp [.o (.bin 6 .lss 3 (.t 5) (.t 4)),
   .ite (.t 6) []
    [.ex 0],
   .blk 1 [.o (.mv 7 (.t 3)),
    .o (.bin 8 .mul 3 (.t 7) (.c (.i 2))),
    .o (.mv 3 (.t 8))],
   .o (.bin 9 .add 3 (.t 5) (.c (.i 1))),
   .o (.mv 5 (.t 9))]],
 .o (.mv 10 (.t 3)),
 .o (.mv 2 (.t 10)),
 .ret]
theorem cc174 : Tryd.f174.body.map cc = some c174 := by kernel_rfl
theorem rs174 : Tryd.f174.results.toList.map cRS = [.t 2] := by kernel_rfl
-- FN 175 livery/liveryref06.up ntmps 11 params #[3, 3]
def c175 : List C := [.o (.mv 4 (.c (.i 0))),
 .o (.mv 5 (.t 0)),
 .o (.mv 6 (.t 1)),
 .o (.bin 7 .add 3 (.t 5) (.t 6)),
 .o (.bin 8 .sub 3 (.t 7) (.c (.i 1))),
 .o (.mv 9 (.t 1)),
 .o (.bin 10 .quo 3 (.t 8) (.t 9)),
 .o (.mv 4 (.t 10)),
 .ret]
theorem cc175 : Tryd.f175.body.map cc = some c175 := by kernel_rfl
theorem rs175 : Tryd.f175.results.toList.map cRS = [.t 4] := by kernel_rfl
-- FN 176 livery/liveryref06.bits ntmps 11 params #[3]
def c176 : List C := [.o (.mv 2 (.c (.i 0))),
 .o (.mv 3 (.c (.i 0))),
 .blk 0 [.lp [.o (.mv 4 (.t 3)),
   .o (.call 5 (.f 174) [(.t 4)]),
   .o (.mv 6 (.t 0)),
   .o (.bin 7 .leq 3 (.t 5) (.t 6)),
   .ite (.t 7) []
    [.ex 0],
   .blk 1 [.o (.mv 8 (.t 3)),
    .o (.bin 9 .add 3 (.t 8) (.c (.i 1))),
    .o (.mv 3 (.t 9))]]],
 .o (.mv 10 (.t 3)),
 .o (.mv 2 (.t 10)),
 .ret]
theorem cc176 : Tryd.f176.body.map cc = some c176 := by kernel_rfl
theorem rs176 : Tryd.f176.results.toList.map cRS = [.t 2] := by kernel_rfl
-- FN 192 livery/liveryref06.own ntmps 34 params #[22, 22]
def c192 : List C := [.o (.mv 4 (.c (.i 0))),
 .o (.mv 5 (.c (.i 0))),
 .o (.mv 6 (.c (.b false))),
 .o (.mv 8 (.t 0)),
 .o (.mv 9 (.t 1)),
 .o (.bin 10 .lss 22 (.t 8) (.t 9)),
 .o (.mv 11 (.t 10)),
 .o (.gd 11 false (.mv 12 (.t 0))),
 .o (.gd 11 false (.mv 13 (.t 1))),
 .o (.gd 11 false (.bin 14 .add 22 (.t 13) (.c (.u32 63)))),
 .o (.gd 11 false (.bin 15 .gtr 22 (.t 12) (.t 14))),
 .o (.pick 16 (.t 11) (.c (.b true)) (.t 15)),
 .ite (.t 16) [.o (.mv 4 (.c (.i 0))),
  .o (.mv 5 (.c (.i 0))),
  .o (.mv 6 (.c (.b false))),
  .ret]
  [],
 .o (.mv 17 (.t 0)),
 .o (.mv 18 (.t 1)),
 .o (.bin 19 .sub 22 (.t 17) (.t 18)),
 .o (.cv 20 22 3 (.t 19)),
 .o (.bin 21 .rem 3 (.t 20) (.c (.i 16))),
 .o (.mv 7 (.t 21)),
 .o (.mv 22 (.t 0)),
 .o (.mv 23 (.t 1)),
 .o (.bin 24 .sub 22 (.t 22) (.t 23)),
 .o (.cv 25 22 3 (.t 24)),
 .o (.bin 26 .quo 3 (.t 25) (.c (.i 16))),
 .o (.mv 27 (.t 7)),
 .o (.mv 28 (.t 7)),
 .o (.bin 29 .geq 3 (.t 28) (.c (.i 1))),
 .o (.mv 30 (.t 29)),
 .o (.gd 30 true (.mv 31 (.t 7))),
 .o (.gd 30 true (.bin 32 .leq 3 (.t 31) (.c (.i 4)))),
 .o (.pick 33 (.t 30) (.t 32) (.c (.b false))),
 .o (.mv 4 (.t 26)),
 .o (.mv 5 (.t 27)),
 .o (.mv 6 (.t 33)),
 .ret]
theorem cc192 : Tryd.f192.body.map cc = some c192 := by kernel_rfl
theorem rs192 : Tryd.f192.results.toList.map cRS = [.t 4, .t 5, .t 6] := by kernel_rfl
-- FN 203 livery/liveryref06.Lms ntmps 39 params #[22]
def c203 : List C := [.o (.al 2 113),
 .o (.mv 3 (.c (.i 0))),
 .o (.mv 8 (.t 0)),
 .o (.call 9 (.f 192) [(.t 8), (.c (.u32 4026531840))]),
 .o (.mv 7 (.t 9)),
 .o (.ext 10 (.t 7) 0),
 .o (.ext 11 (.t 7) 1),
 .o (.ext 12 (.t 7) 2),
 .o (.mv 4 (.t 10)),
 .o (.mv 5 (.t 11)),
 .o (.mv 6 (.t 12)),
 .o (.mv 13 (.t 0)),
 .o (.bin 14 .geq 22 (.t 13) (.c (.u32 5))),
 .o (.mv 15 (.t 14)),
 .o (.gd 15 true (.mv 16 (.t 0))),
 .o (.gd 15 true (.bin 17 .leq 22 (.t 16) (.c (.u32 24)))),
 .o (.pick 18 (.t 15) (.t 17) (.c (.b false))),
 .ite (.t 18) [.o (.mv 19 (.t 0)),
  .o (.bin 20 .sub 22 (.t 19) (.c (.u32 5))),
  .o (.cv 21 22 3 (.t 20)),
  .o (.bin 22 .quo 3 (.t 21) (.c (.i 5))),
  .o (.mv 23 (.t 0)),
  .o (.bin 24 .sub 22 (.t 23) (.c (.u32 5))),
  .o (.cv 25 22 3 (.t 24)),
  .o (.bin 26 .rem 3 (.t 25) (.c (.i 5))),
  .o (.bin 27 .add 3 (.t 26) (.c (.i 1))),
  .o (.bin 28 .mul 3 (.c (.i 5)) (.t 27)),
  .o (.mv 4 (.t 22)),
  .o (.mv 5 (.t 28)),
  .o (.mv 6 (.c (.b true)))]
  [],
 .o (.mv 29 (.t 6)),
 .o (.un 30 .not (.t 29)),
 .ite (.t 30) [.o (.bld 31 113 []),
  .o (.st 113 (.t 2) (.t 31)),
  .o (.mv 3 (.c (.i 60))),
  .ret]
  [],
 .o (.mv 32 (.t 0)),
 .o (.mv 33 (.t 4)),
 .o (.bin 34 .geq 3 (.t 33) (.c (.i 2))),
 .o (.mv 35 (.t 4)),
 .o (.call 36 (.f 173) [(.t 35)]),
 .o (.mv 37 (.t 5)),
 .o (.bld 38 113 [(0, (.t 32)), (1, (.t 34)), (2, (.t 36)), (3, (.t 37))]),
 .o (.st 113 (.t 2) (.t 38)),
 .o (.mv 3 (.c (.i 0))),
 .ret]
theorem cc203 : Tryd.f203.body.map cc = some c203 := by kernel_rfl
theorem rs203 : Tryd.f203.results.toList.map cRS = [.c 2 113, .t 3] := by kernel_rfl
-- FN 210 livery/liveryref06.MayLms ntmps 18 params #[113]
def c210 : List C := [.o (.bx 1 113 (.t 0)),
 .o (.mv 2 (.c (.b false))),
 .o (.fa 6 113 (.t 1) 0),
 .o (.ld 7 22 (.t 6)),
 .o (.call 8 (.f 203) [(.t 7)]),
 .o (.mv 5 (.t 8)),
 .o (.ext 9 (.t 5) 0),
 .o (.ext 10 (.t 5) 1),
 .o (.al 3 113),
 .o (.st 113 (.t 3) (.t 9)),
 .o (.mv 4 (.t 10)),
 .o (.mv 11 (.t 4)),
 .o (.bin 12 .eql 40 (.t 11) (.c (.i 0))),
 .o (.mv 13 (.t 12)),
 .o (.gd 13 true (.ld 14 113 (.t 3))),
 .o (.gd 13 true (.ld 15 113 (.t 1))),
 .o (.gd 13 true (.bin 16 .eql 113 (.t 14) (.t 15))),
 .o (.pick 17 (.t 13) (.t 16) (.c (.b false))),
 .o (.mv 2 (.t 17)),
 .ret]
theorem cc210 : Tryd.f210.body.map cc = some c210 := by kernel_rfl
theorem rs210 : Tryd.f210.results.toList.map cRS = [.t 2] := by kernel_rfl
end Go.Lv

namespace Go.Lv
open Go Go.Proofs
set_option maxRecDepth 100000
-- FN 28 livery/lmots.Hash ntmps 29 params #[27, 23]
def c28 : List C := [.o (.bx 2 27 (.t 0)),
 .o (.mv 4 (.c .nils)),
 .o (.ld 8 27 (.t 2)),
 .o (.call 9 (.f 102) [(.t 8)]),
 .o (.bin 10 .neq 40 (.t 9) (.c (.i 0))),
 .ite (.t 10) [.o (.mv 4 (.c .nils)),
  .ret]
  [],
 .blk 0 [.o (.fa 19 27 (.t 2) 1),
  .o (.ld 20 4 (.t 19)),
  .o (.mv 18 (.t 20)),
  .ite (.t 18) [.o (.fa 22 27 (.t 2) 2),
   .o (.ld 23 3 (.t 22)),
   .o (.mv 24 (.t 1)),
   .o (.call 25 (.f 103) [(.c (.i 256)), (.t 23), (.t 24)]),
   .o (.mv 21 (.t 25)),
   .o (.ext 26 (.t 21) 0),
   .o (.ext 27 (.t 21) 1),
   .o (.mv 5 (.t 26)),
   .o (.mv 6 (.t 27)),
   .o (.mv 28 (.t 5)),
   .o (.mv 4 (.t 28)),
   .ret]
   [.o (.mv 11 (.t 1)),
   .o (.call 12 (.f 104) [(.t 11)]),
   .o (.al 7 76),
   .o (.st 76 (.t 7) (.t 12)),
   .o (.fa 13 27 (.t 2) 2),
   .o (.ld 14 3 (.t 13)),
   .o (.fa 15 27 (.t 2) 2),
   .o (.ld 16 3 (.t 15)),
   .o (.slc 17 76 (.t 7) none (some (.t 14)) (some (.t 16))),
   .o (.mv 4 (.t 17)),
   .ret]]]
theorem cc28 : Tryd.f28.body.map cc = some c28 := by kernel_rfl
theorem rs28 : Tryd.f28.results.toList.map cRS = [.t 4] := by kernel_rfl
-- FN 33 livery/lmots.Chain ntmps 63 params #[27, 35, 22, 3, 3, 3, 25]
def c33 : List C := [.o (.bx 7 27 (.t 0)),
 .o (.bx 8 35 (.t 1)),
 .o (.mv 14 (.c .nils)),
 .o (.mv 15 (.c (.i 0))),
 .o (.ld 17 27 (.t 7)),
 .o (.call 18 (.f 102) [(.t 17)]),
 .o (.mv 16 (.t 18)),
 .o (.mv 19 (.t 16)),
 .o (.bin 20 .neq 40 (.t 19) (.c (.i 0))),
 .ite (.t 20) [.o (.mv 21 (.t 16)),
  .o (.mv 14 (.c .nils)),
  .o (.mv 15 (.t 21)),
  .ret]
  [],
 .o (.mv 22 (.t 3)),
 .o (.bin 23 .lss 3 (.t 22) (.c (.i 0))),
 .o (.mv 24 (.t 23)),
 .o (.gd 24 false (.mv 25 (.t 3))),
 .o (.gd 24 false (.fa 26 27 (.t 7) 4)),
 .o (.gd 24 false (.ld 27 3 (.t 26))),
 .o (.gd 24 false (.bin 28 .geq 3 (.t 25) (.t 27))),
 .o (.pick 29 (.t 24) (.c (.b true)) (.t 28)),
 .o (.mv 30 (.t 29)),
 .o (.gd 30 false (.mv 31 (.t 4))),
 .o (.gd 30 false (.bin 32 .lss 3 (.t 31) (.c (.i 0)))),
 .o (.pick 33 (.t 30) (.c (.b true)) (.t 32)),
 .o (.mv 34 (.t 33)),
 .o (.gd 34 false (.mv 35 (.t 5))),
 .o (.gd 34 false (.ld 36 27 (.t 7))),
 .o (.gd 34 false (.call 37 (.f 107) [(.t 36)])),
 .o (.gd 34 false (.bin 38 .gtr 3 (.t 35) (.t 37))),
 .o (.pick 39 (.t 34) (.c (.b true)) (.t 38)),
 .o (.mv 40 (.t 39)),
 .o (.gd 40 false (.mv 41 (.t 4))),
 .o (.gd 40 false (.mv 42 (.t 5))),
 .o (.gd 40 false (.bin 43 .gtr 3 (.t 41) (.t 42))),
 .o (.pick 44 (.t 40) (.c (.b true)) (.t 43)),
 .o (.mv 45 (.t 44)),
 .o (.gd 45 false (.mv 46 (.t 6))),
 .o (.gd 45 false (.len 47 25 (.t 46))),
 .o (.gd 45 false (.fa 48 27 (.t 7) 2)),
 .o (.gd 45 false (.ld 49 3 (.t 48))),
 .o (.gd 45 false (.bin 50 .neq 3 (.t 47) (.t 49))),
 .o (.pick 51 (.t 45) (.c (.b true)) (.t 50)),
 .ite (.t 51) [.o (.mv 14 (.c .nils)),
  .o (.mv 15 (.c (.i 1))),
  .ret]
  [],
 .o (.ld 52 27 (.t 7)),
 .o (.ld 53 35 (.t 8)),
 .o (.mv 54 (.t 2)),
 .o (.call 55 (.f 109) [(.t 52), (.t 53), (.t 54)]),
 .o (.mv 56 (.t 3)),
 .o (.mv 57 (.t 4)),
 .o (.mv 58 (.t 5)),
 .o (.mv 59 (.t 6)),
 .o (.call 60 (.f 110) [(.t 55), (.t 56), (.t 57), (.t 58), (.t 59)]),
 .o (.bsl 61 23 1 [(0, (.t 60))]),
 .o (.call 62 (.f 108) [(.t 61)]),
 .o (.mv 14 (.t 62)),
 .o (.mv 15 (.c (.i 0))),
 .ret]
theorem cc33 : Tryd.f33.body.map cc = some c33 := by kernel_rfl
theorem rs33 : Tryd.f33.results.toList.map cRS = [.t 14, .t 15] := by kernel_rfl
-- FN 36 livery/lmots.Secret ntmps 34 params #[27, 35, 22, 25, 3]
def c36 : List C := [.o (.bx 5 27 (.t 0)),
 .o (.bx 6 35 (.t 1)),
 .o (.mv 10 (.c .nils)),
 .o (.mv 11 (.c (.i 0))),
 .o (.ld 13 27 (.t 5)),
 .o (.mv 14 (.t 3)),
 .o (.call 15 (.f 114) [(.t 13), (.t 14)]),
 .o (.mv 12 (.t 15)),
 .o (.mv 16 (.t 12)),
 .o (.bin 17 .neq 40 (.t 16) (.c (.i 0))),
 .ite (.t 17) [.o (.mv 18 (.t 12)),
  .o (.mv 10 (.c .nils)),
  .o (.mv 11 (.t 18)),
  .ret]
  [],
 .o (.mv 19 (.t 4)),
 .o (.bin 20 .lss 3 (.t 19) (.c (.i 0))),
 .o (.mv 21 (.t 20)),
 .o (.gd 21 false (.mv 22 (.t 4))),
 .o (.gd 21 false (.fa 23 27 (.t 5) 4)),
 .o (.gd 21 false (.ld 24 3 (.t 23))),
 .o (.gd 21 false (.bin 25 .geq 3 (.t 22) (.t 24))),
 .o (.pick 26 (.t 21) (.c (.b true)) (.t 25)),
 .ite (.t 26) [.o (.mv 10 (.c .nils)),
  .o (.mv 11 (.c (.i 1))),
  .ret]
  [],
 .o (.ld 27 27 (.t 5)),
 .o (.ld 28 35 (.t 6)),
 .o (.mv 29 (.t 2)),
 .o (.call 30 (.f 109) [(.t 27), (.t 28), (.t 29)]),
 .o (.mv 31 (.t 4)),
 .o (.mv 32 (.t 3)),
 .o (.call 33 (.f 115) [(.t 30), (.t 31), (.t 32)]),
 .o (.mv 10 (.t 33)),
 .o (.mv 11 (.c (.i 0))),
 .ret]
theorem cc36 : Tryd.f36.body.map cc = some c36 := by kernel_rfl
theorem rs36 : Tryd.f36.results.toList.map cRS = [.t 10, .t 11] := by kernel_rfl
-- FN 37 livery/lmots.Random ntmps 23 params #[27, 35, 22, 25]
def c37 : List C := [.o (.bx 4 27 (.t 0)),
 .o (.bx 5 35 (.t 1)),
 .o (.mv 8 (.c .nils)),
 .o (.mv 9 (.c (.i 0))),
 .o (.ld 11 27 (.t 4)),
 .o (.mv 12 (.t 3)),
 .o (.call 13 (.f 114) [(.t 11), (.t 12)]),
 .o (.mv 10 (.t 13)),
 .o (.mv 14 (.t 10)),
 .o (.bin 15 .neq 40 (.t 14) (.c (.i 0))),
 .ite (.t 15) [.o (.mv 16 (.t 10)),
  .o (.mv 8 (.c .nils)),
  .o (.mv 9 (.t 16)),
  .ret]
  [],
 .o (.ld 17 27 (.t 4)),
 .o (.ld 18 35 (.t 5)),
 .o (.mv 19 (.t 2)),
 .o (.call 20 (.f 109) [(.t 17), (.t 18), (.t 19)]),
 .o (.mv 21 (.t 3)),
 .o (.call 22 (.f 115) [(.t 20), (.c (.i 65533)), (.t 21)]),
 .o (.mv 8 (.t 22)),
 .o (.mv 9 (.c (.i 0))),
 .ret]
theorem cc37 : Tryd.f37.body.map cc = some c37 := by kernel_rfl
theorem rs37 : Tryd.f37.results.toList.map cRS = [.t 8, .t 9] := by kernel_rfl
-- FN 41 livery/lmots.Public ntmps 44 params #[27, 35, 22, 25]
def c41 : List C := [.o (.bx 4 27 (.t 0)),
 .o (.bx 5 35 (.t 1)),
 .o (.mv 8 (.c .nils)),
 .o (.mv 9 (.c (.i 0))),
 .o (.ld 14 27 (.t 4)),
 .o (.mv 15 (.t 3)),
 .o (.call 16 (.f 114) [(.t 14), (.t 15)]),
 .o (.mv 10 (.t 16)),
 .o (.mv 17 (.t 10)),
 .o (.bin 18 .neq 40 (.t 17) (.c (.i 0))),
 .ite (.t 18) [.o (.mv 19 (.t 10)),
  .o (.mv 8 (.c .nils)),
  .o (.mv 9 (.t 19)),
  .ret]
  [],
 .o (.ld 20 27 (.t 4)),
 .o (.ld 21 35 (.t 5)),
 .o (.mv 22 (.t 2)),
 .o (.call 23 (.f 109) [(.t 20), (.t 21), (.t 22)]),
 .o (.al 11 145),
 .o (.st 145 (.t 11) (.t 23)),
 .o (.mv 12 (.c .nils)),
 .o (.fa 24 27 (.t 4) 4),
 .o (.ld 25 3 (.t 24)),
 .o (.mv 26 (.c (.i 0))),
 .blk 0 [.lp [.o (.bin 27 .lss 3 (.t 26) (.t 25)),
   .ite (.t 27) []
    [.ex 0],
   .blk 1 [.o (.mv 28 (.t 26)),
    .o (.mv 13 (.t 28)),
    .dr true 10 [.mv 29 (.t 12), .ld 30 145 (.t 11), .mv 31 (.t 13), .ld 32 27 (.t 4), .call 33 (.f 107) [(.t 32)], .ld 34 145 (.t 11), .mv 35 (.t 13), .mv 36 (.t 3), .call 37 (.f 115) [(.t 34), (.t 35), (.t 36)], .call 38 (.f 110) [(.t 30), (.t 31), (.c (.i 0)), (.t 33), (.t 37)], .app 39 25 25 (.t 29) (.t 38), .mv 12 (.t 39)]],
   .o (.bin 40 .add 3 (.t 26) (.c (.i 1))),
   .o (.mv 26 (.t 40))]],
 .o (.ld 41 145 (.t 11)),
 .o (.mv 42 (.t 12)),
 .o (.call 43 (.f 116) [(.t 41), (.t 42)]),
 .o (.mv 8 (.t 43)),
 .o (.mv 9 (.c (.i 0))),
 .ret]
theorem cc41 : Tryd.f41.body.map cc = some c41 := by kernel_rfl
theorem rs41 : Tryd.f41.results.toList.map cRS = [.t 8, .t 9] := by kernel_rfl
-- FN 43 livery/lmots.Sign ntmps 59 params #[27, 35, 22, 25, 25]
def c43 : List C := [.o (.bx 5 27 (.t 0)),
 .o (.bx 6 35 (.t 1)),
 .o (.mv 10 (.c .nils)),
 .o (.mv 11 (.c (.i 0))),
 .o (.ld 18 27 (.t 5)),
 .o (.mv 19 (.t 3)),
 .o (.call 20 (.f 114) [(.t 18), (.t 19)]),
 .o (.mv 12 (.t 20)),
 .o (.mv 21 (.t 12)),
 .o (.bin 22 .neq 40 (.t 21) (.c (.i 0))),
 .ite (.t 22) [.o (.mv 23 (.t 12)),
  .o (.mv 10 (.c .nils)),
  .o (.mv 11 (.t 23)),
  .ret]
  [],
 .o (.ld 24 27 (.t 5)),
 .o (.ld 25 35 (.t 6)),
 .o (.mv 26 (.t 2)),
 .o (.call 27 (.f 109) [(.t 24), (.t 25), (.t 26)]),
 .o (.al 13 145),
 .o (.st 145 (.t 13) (.t 27)),
 .o (.ld 28 145 (.t 13)),
 .o (.mv 29 (.t 3)),
 .o (.call 30 (.f 115) [(.t 28), (.c (.i 65533)), (.t 29)]),
 .o (.mv 14 (.t 30)),
 .o (.fa 31 27 (.t 5) 0),
 .o (.ld 32 22 (.t 31)),
 .o (.call 33 (.f 118) [(.t 32)]),
 .o (.mv 34 (.t 14)),
 .o (.bsl 35 23 2 [(0, (.t 33)), (1, (.t 34))]),
 .o (.call 36 (.f 108) [(.t 35)]),
 .o (.mv 15 (.t 36)),
 .o (.ld 37 145 (.t 13)),
 .o (.mv 38 (.t 14)),
 .o (.mv 39 (.t 4)),
 .o (.call 40 (.f 119) [(.t 37), (.t 38), (.t 39)]),
 .o (.len 41 70 (.t 40)),
 .o (.mv 42 (.c (.i 0))),
 .blk 0 [.lp [.o (.bin 43 .lss 3 (.t 42) (.t 41)),
   .ite (.t 43) []
    [.ex 0],
   .blk 1 [.o (.mv 44 (.t 42)),
    .o (.ia 45 70 (.t 40) (.t 42)),
    .o (.ld 46 3 (.t 45)),
    .o (.mv 16 (.t 44)),
    .o (.mv 17 (.t 46)),
    .dr true 9 [.mv 47 (.t 15), .ld 48 145 (.t 13), .mv 49 (.t 16), .mv 50 (.t 17), .ld 51 145 (.t 13), .mv 52 (.t 16), .mv 53 (.t 3), .call 54 (.f 115) [(.t 51), (.t 52), (.t 53)], .call 55 (.f 110) [(.t 48), (.t 49), (.c (.i 0)), (.t 50), (.t 54)], .app 56 25 25 (.t 47) (.t 55), .mv 15 (.t 56)]],
   .o (.bin 57 .add 3 (.t 42) (.c (.i 1))),
   .o (.mv 42 (.t 57))]],
 .o (.mv 58 (.t 15)),
 .o (.mv 10 (.t 58)),
 .o (.mv 11 (.c (.i 0))),
 .ret]
theorem cc43 : Tryd.f43.body.map cc = some c43 := by kernel_rfl
theorem rs43 : Tryd.f43.results.toList.map cRS = [.t 10, .t 11] := by kernel_rfl
-- FN 53 livery/lmots.Candidate ntmps 85 params #[27, 35, 22, 25, 25]
def c53 : List C := [.o (.bx 5 27 (.t 0)),
 .o (.bx 6 35 (.t 1)),
 .o (.mv 10 (.c .nils)),
 .o (.mv 11 (.c (.i 0))),
 .o (.ld 19 27 (.t 5)),
 .o (.call 20 (.f 102) [(.t 19)]),
 .o (.mv 12 (.t 20)),
 .o (.mv 21 (.t 12)),
 .o (.bin 22 .neq 40 (.t 21) (.c (.i 0))),
 .ite (.t 22) [.o (.mv 23 (.t 12)),
  .o (.mv 10 (.c .nils)),
  .o (.mv 11 (.t 23)),
  .ret]
  [],
 .dr true 11 [.mv 24 (.t 4), .len 25 25 (.t 24), .ld 26 27 (.t 5), .call 27 (.f 132) [(.t 26)], .bin 28 .neq 3 (.t 25) (.t 27), .mv 29 (.t 28), .gd 29 false (.mv 30 (.t 4)), .gd 29 false (.slc 31 25 (.t 30) none (some (.c (.i 4))) none), .gd 29 false (.fa 32 27 (.t 5) 0), .gd 29 false (.ld 33 22 (.t 32)), .gd 29 false (.call 34 (.f 118) [(.t 33)]), .gd 29 false (.call 35 (.f 133) [(.t 31), (.t 34)]), .gd 29 false (.un 36 .not (.t 35)), .pick 37 (.t 29) (.c (.b true)) (.t 36)],
 .ite (.t 37) [.o (.mv 10 (.c .nils)),
  .o (.mv 11 (.c (.i 70))),
  .ret]
  [],
 .o (.ld 38 27 (.t 5)),
 .o (.ld 39 35 (.t 6)),
 .o (.mv 40 (.t 2)),
 .o (.call 41 (.f 109) [(.t 38), (.t 39), (.t 40)]),
 .o (.al 13 145),
 .o (.st 145 (.t 13) (.t 41)),
 .dr true 11 [.mv 42 (.t 4), .fa 43 27 (.t 5) 2, .ld 44 3 (.t 43), .bin 45 .add 3 (.c (.i 4)) (.t 44), .slc 46 25 (.t 42) (some (.c (.i 4))) (some (.t 45)) none, .mv 47 (.t 4), .fa 48 27 (.t 5) 2, .ld 49 3 (.t 48), .bin 50 .add 3 (.c (.i 4)) (.t 49), .slc 51 25 (.t 47) (some (.t 50)) none none, .mv 14 (.t 46), .mv 15 (.t 51)],
 .o (.mv 16 (.c .nils)),
 .o (.ld 52 145 (.t 13)),
 .o (.mv 53 (.t 14)),
 .o (.mv 54 (.t 3)),
 .o (.call 55 (.f 119) [(.t 52), (.t 53), (.t 54)]),
 .o (.len 56 70 (.t 55)),
 .o (.mv 57 (.c (.i 0))),
 .blk 0 [.lp [.o (.bin 58 .lss 3 (.t 57) (.t 56)),
   .ite (.t 58) []
    [.ex 0],
   .blk 1 [.o (.mv 59 (.t 57)),
    .o (.ia 60 70 (.t 55) (.t 57)),
    .o (.ld 61 3 (.t 60)),
    .o (.mv 17 (.t 59)),
    .o (.mv 18 (.t 61)),
    .dr true 18 [.mv 62 (.t 16), .ld 63 145 (.t 13), .mv 64 (.t 17), .mv 65 (.t 18), .ld 66 27 (.t 5), .call 67 (.f 107) [(.t 66)], .mv 68 (.t 15), .mv 69 (.t 17), .fa 70 27 (.t 5) 2, .ld 71 3 (.t 70), .bin 72 .mul 3 (.t 69) (.t 71), .mv 73 (.t 17), .bin 74 .add 3 (.t 73) (.c (.i 1)), .fa 75 27 (.t 5) 2, .ld 76 3 (.t 75), .bin 77 .mul 3 (.t 74) (.t 76), .slc 78 25 (.t 68) (some (.t 72)) (some (.t 77)) none, .call 79 (.f 110) [(.t 63), (.t 64), (.t 65), (.t 67), (.t 78)], .app 80 25 25 (.t 62) (.t 79), .mv 16 (.t 80)]],
   .o (.bin 81 .add 3 (.t 57) (.c (.i 1))),
   .o (.mv 57 (.t 81))]],
 .o (.ld 82 145 (.t 13)),
 .o (.mv 83 (.t 16)),
 .o (.call 84 (.f 116) [(.t 82), (.t 83)]),
 .o (.mv 10 (.t 84)),
 .o (.mv 11 (.c (.i 0))),
 .ret]
theorem cc53 : Tryd.f53.body.map cc = some c53 := by kernel_rfl
theorem rs53 : Tryd.f53.results.toList.map cRS = [.t 10, .t 11] := by kernel_rfl
-- FN 101 livery/lmots.Digits ntmps 20 params #[27, 25]
def c101 : List C := [.o (.bx 2 27 (.t 0)),
 .o (.mv 4 (.c .nils)),
 .o (.mv 5 (.c (.i 0))),
 .o (.ld 7 27 (.t 2)),
 .o (.call 8 (.f 102) [(.t 7)]),
 .o (.mv 6 (.t 8)),
 .o (.mv 9 (.t 6)),
 .o (.bin 10 .neq 40 (.t 9) (.c (.i 0))),
 .ite (.t 10) [.o (.mv 11 (.t 6)),
  .o (.mv 4 (.c .nils)),
  .o (.mv 5 (.t 11)),
  .ret]
  [],
 .o (.mv 12 (.t 1)),
 .o (.len 13 25 (.t 12)),
 .o (.fa 14 27 (.t 2) 2),
 .o (.ld 15 3 (.t 14)),
 .o (.bin 16 .neq 3 (.t 13) (.t 15)),
 .ite (.t 16) [.o (.mv 4 (.c .nils)),
  .o (.mv 5 (.c (.i 1))),
  .ret]
  [],
 .o (.ld 17 27 (.t 2)),
 .o (.mv 18 (.t 1)),
 .o (.call 19 (.f 177) [(.t 17), (.t 18)]),
 .o (.mv 4 (.t 19)),
 .o (.mv 5 (.c (.i 0))),
 .ret]
theorem cc101 : Tryd.f101.body.map cc = some c101 := by kernel_rfl
theorem rs101 : Tryd.f101.results.toList.map cRS = [.t 4, .t 5] := by kernel_rfl
-- FN 102 livery/lmots.may ntmps 18 params #[27]
def c102 : List C := [.o (.bx 1 27 (.t 0)),
 .o (.mv 2 (.c (.i 0))),
 .o (.fa 6 27 (.t 1) 0),
 .o (.ld 7 22 (.t 6)),
 .o (.call 8 (.f 178) [(.t 7)]),
 .o (.mv 5 (.t 8)),
 .o (.ext 9 (.t 5) 0),
 .o (.ext 10 (.t 5) 1),
 .o (.al 3 27),
 .o (.st 27 (.t 3) (.t 9)),
 .o (.mv 4 (.t 10)),
 .blk 0 [.blk 2 [.blk 1 [.o (.mv 12 (.t 4)),
    .o (.bin 13 .neq 40 (.t 12) (.c (.i 0))),
    .o (.mv 11 (.t 13)),
    .ite (.t 11) [.ex 1]
     [],
    .o (.ld 15 27 (.t 3)),
    .o (.ld 16 27 (.t 1)),
    .o (.bin 17 .neq 27 (.t 15) (.t 16)),
    .o (.mv 14 (.t 17)),
    .ite (.t 14) [.ex 2]
     [],
    .ex 0]],
  .o (.mv 2 (.c (.i 60))),
  .ret,
  .ex 0],
 .o (.mv 2 (.c (.i 0))),
 .ret]
theorem cc102 : Tryd.f102.body.map cc = some c102 := by kernel_rfl
theorem rs102 : Tryd.f102.results.toList.map cRS = [.t 2] := by kernel_rfl
-- FN 107 livery/lmots.top ntmps 7 params #[27]
def c107 : List C := [.o (.bx 1 27 (.t 0)),
 .o (.mv 2 (.c (.i 0))),
 .o (.fa 3 27 (.t 1) 3),
 .o (.ld 4 3 (.t 3)),
 .o (.bin 5 .shl 3 (.c (.i 1)) (.t 4)),
 .o (.bin 6 .sub 3 (.t 5) (.c (.i 1))),
 .o (.mv 2 (.t 6)),
 .ret]
theorem cc107 : Tryd.f107.body.map cc = some c107 := by kernel_rfl
theorem rs107 : Tryd.f107.results.toList.map cRS = [.t 2] := by kernel_rfl
-- FN 109 livery/lmots.at ntmps 14 params #[27, 35, 22]
def c109 : List C := [.o (.bx 3 27 (.t 0)),
 .o (.bx 4 35 (.t 1)),
 .o (.al 6 145),
 .dr true 6 [.ld 7 27 (.t 3), .slc 8 35 (.t 4) none none none, .mv 9 (.t 2), .call 10 (.f 118) [(.t 9)], .bsl 11 23 2 [(0, (.t 8)), (1, (.t 10))], .call 12 (.f 108) [(.t 11)], .bld 13 145 [(0, (.t 7)), (1, (.t 12))], .st 145 (.t 6) (.t 13)],
 .ret]
theorem cc109 : Tryd.f109.body.map cc = some c109 := by kernel_rfl
theorem rs109 : Tryd.f109.results.toList.map cRS = [.c 6 145] := by kernel_rfl
-- FN 110 (livery/lmots.leaf).goes ntmps 32 params #[145, 3, 3, 3, 25]
def c110 : List C := [.o (.bx 5 145 (.t 0)),
 .o (.mv 10 (.c .nils)),
 .o (.mv 12 (.t 2)),
 .o (.mv 11 (.t 12)),
 .blk 0 [.lp [.o (.mv 13 (.t 11)),
   .o (.mv 14 (.t 3)),
   .o (.bin 15 .lss 3 (.t 13) (.t 14)),
   .ite (.t 15) []
    [.ex 0],
   .blk 1 [.dr true 12 [.fa 18 145 (.t 5) 0, .ld 19 27 (.t 18), .fa 20 145 (.t 5) 1, .ld 21 25 (.t 20), .mv 22 (.t 1), .cv 23 3 225 (.t 22), .call 24 (.f 189) [(.t 23)], .mv 25 (.t 11), .cv 26 3 5 (.t 25), .bsl 27 25 1 [(0, (.t 26))], .mv 28 (.t 4), .bsl 29 23 4 [(0, (.t 21)), (1, (.t 24)), (2, (.t 27)), (3, (.t 28))], .call 30 (.f 28) [(.t 19), (.t 29)], .mv 4 (.t 30)]],
   .o (.mv 16 (.t 11)),
   .o (.bin 17 .add 3 (.t 16) (.c (.i 1))),
   .o (.mv 11 (.t 17))]],
 .o (.mv 31 (.t 4)),
 .o (.mv 10 (.t 31)),
 .ret]
theorem cc110 : Tryd.f110.body.map cc = some c110 := by kernel_rfl
theorem rs110 : Tryd.f110.results.toList.map cRS = [.t 10] := by kernel_rfl
-- FN 114 livery/lmots.seeded ntmps 16 params #[27, 25]
def c114 : List C := [.o (.bx 2 27 (.t 0)),
 .o (.mv 4 (.c (.i 0))),
 .o (.ld 6 27 (.t 2)),
 .o (.call 7 (.f 102) [(.t 6)]),
 .o (.mv 5 (.t 7)),
 .o (.mv 8 (.t 5)),
 .o (.bin 9 .neq 40 (.t 8) (.c (.i 0))),
 .ite (.t 9) [.o (.mv 10 (.t 5)),
  .o (.mv 4 (.t 10)),
  .ret]
  [],
 .o (.mv 11 (.t 1)),
 .o (.len 12 25 (.t 11)),
 .o (.fa 13 27 (.t 2) 2),
 .o (.ld 14 3 (.t 13)),
 .o (.bin 15 .neq 3 (.t 12) (.t 14)),
 .ite (.t 15) [.o (.mv 4 (.c (.i 1))),
  .ret]
  [],
 .o (.mv 4 (.c (.i 0))),
 .ret]
theorem cc114 : Tryd.f114.body.map cc = some c114 := by kernel_rfl
theorem rs114 : Tryd.f114.results.toList.map cRS = [.t 4] := by kernel_rfl
-- FN 115 (livery/lmots.leaf).secret ntmps 18 params #[145, 3, 25]
def c115 : List C := [.o (.bx 3 145 (.t 0)),
 .o (.mv 6 (.c .nils)),
 .dr true 10 [.fa 7 145 (.t 3) 0, .ld 8 27 (.t 7), .fa 9 145 (.t 3) 1, .ld 10 25 (.t 9), .mv 11 (.t 1), .cv 12 3 225 (.t 11), .call 13 (.f 189) [(.t 12)], .bsl 14 25 1 [(0, (.c (.u8 255)))], .mv 15 (.t 2), .bsl 16 23 4 [(0, (.t 10)), (1, (.t 13)), (2, (.t 14)), (3, (.t 15))], .call 17 (.f 28) [(.t 8), (.t 16)], .mv 6 (.t 17)],
 .ret]
theorem cc115 : Tryd.f115.body.map cc = some c115 := by kernel_rfl
theorem rs115 : Tryd.f115.results.toList.map cRS = [.t 6] := by kernel_rfl
-- FN 116 (livery/lmots.leaf).shut ntmps 13 params #[145, 25]
def c116 : List C := [.o (.bx 2 145 (.t 0)),
 .o (.mv 4 (.c .nils)),
 .dr true 7 [.fa 5 145 (.t 2) 0, .ld 6 27 (.t 5), .fa 7 145 (.t 2) 1, .ld 8 25 (.t 7), .call 9 (.f 189) [(.c (.u16 32896))], .mv 10 (.t 1), .bsl 11 23 3 [(0, (.t 8)), (1, (.t 9)), (2, (.t 10))], .call 12 (.f 28) [(.t 6), (.t 11)], .mv 4 (.t 12)],
 .ret]
theorem cc116 : Tryd.f116.body.map cc = some c116 := by kernel_rfl
theorem rs116 : Tryd.f116.results.toList.map cRS = [.t 4] := by kernel_rfl
-- FN 119 (livery/lmots.leaf).said ntmps 19 params #[145, 25, 25]
def c119 : List C := [.o (.bx 3 145 (.t 0)),
 .o (.mv 6 (.c .nils)),
 .dr true 11 [.fa 7 145 (.t 3) 0, .ld 8 27 (.t 7), .fa 9 145 (.t 3) 0, .ld 10 27 (.t 9), .fa 11 145 (.t 3) 1, .ld 12 25 (.t 11), .call 13 (.f 189) [(.c (.u16 33153))], .mv 14 (.t 1), .mv 15 (.t 2), .bsl 16 23 4 [(0, (.t 12)), (1, (.t 13)), (2, (.t 14)), (3, (.t 15))], .call 17 (.f 28) [(.t 10), (.t 16)], .call 18 (.f 177) [(.t 8), (.t 17)], .mv 6 (.t 18)],
 .ret]
theorem cc119 : Tryd.f119.body.map cc = some c119 := by kernel_rfl
theorem rs119 : Tryd.f119.results.toList.map cRS = [.t 6] := by kernel_rfl
-- FN 177 livery/lmots.digits ntmps 42 params #[27, 25]
def c177 : List C := [.o (.bx 2 27 (.t 0)),
 .o (.mv 4 (.c .nils)),
 .o (.ld 9 27 (.t 2)),
 .o (.mv 10 (.t 1)),
 .o (.fa 11 27 (.t 2) 4),
 .o (.ld 12 3 (.t 11)),
 .o (.call 13 (.f 217) [(.t 9), (.t 10), (.t 12)]),
 .o (.mv 5 (.t 13)),
 .o (.mv 6 (.c (.i 0))),
 .o (.mv 14 (.t 5)),
 .o (.len 15 70 (.t 14)),
 .o (.mv 16 (.c (.i 0))),
 .blk 0 [.lp [.o (.bin 17 .lss 3 (.t 16) (.t 15)),
   .ite (.t 17) []
    [.ex 0],
   .blk 1 [.o (.ia 18 70 (.t 14) (.t 16)),
    .o (.ld 19 3 (.t 18)),
    .o (.mv 8 (.t 19)),
    .o (.mv 20 (.t 6)),
    .o (.ld 21 27 (.t 2)),
    .o (.call 22 (.f 107) [(.t 21)]),
    .o (.mv 23 (.t 8)),
    .o (.bin 24 .sub 3 (.t 22) (.t 23)),
    .o (.bin 25 .add 3 (.t 20) (.t 24)),
    .o (.mv 6 (.t 25))],
   .o (.bin 26 .add 3 (.t 16) (.c (.i 1))),
   .o (.mv 16 (.t 26))]],
 .dr true 14 [.mv 27 (.t 5), .ld 28 27 (.t 2), .mv 29 (.t 6), .fa 30 27 (.t 2) 5, .ld 31 3 (.t 30), .bin 32 .shl 3 (.t 29) (.t 31), .cv 33 3 225 (.t 32), .call 34 (.f 189) [(.t 33)], .fa 35 27 (.t 2) 4, .ld 36 3 (.t 35), .mv 37 (.t 5), .len 38 70 (.t 37), .bin 39 .sub 3 (.t 36) (.t 38), .call 40 (.f 217) [(.t 28), (.t 34), (.t 39)], .app 41 70 70 (.t 27) (.t 40), .mv 4 (.t 41)],
 .ret]
theorem cc177 : Tryd.f177.body.map cc = some c177 := by kernel_rfl
theorem rs177 : Tryd.f177.results.toList.map cRS = [.t 4] := by kernel_rfl
-- FN 217 livery/lmots.cut ntmps 48 params #[27, 25, 3]
def c217 : List C := [.o (.bx 3 27 (.t 0)),
 .o (.mv 6 (.c .nils)),
 .o (.mv 7 (.c .nils)),
 .o (.fa 11 27 (.t 3) 3),
 .o (.ld 12 3 (.t 11)),
 .o (.bin 13 .quo 3 (.c (.i 8)) (.t 12)),
 .o (.mv 8 (.t 13)),
 .o (.mv 14 (.t 1)),
 .o (.len 15 25 (.t 14)),
 .o (.mv 16 (.c (.i 0))),
 .blk 0 [.lp [.o (.bin 17 .lss 3 (.t 16) (.t 15)),
   .ite (.t 17) []
    [.ex 0],
   .blk 1 [.o (.mv 18 (.t 16)),
    .o (.mv 9 (.t 18)),
    .o (.mv 19 (.t 8)),
    .o (.mv 20 (.c (.i 0))),
    .blk 2 [.lp [.o (.bin 21 .lss 3 (.t 20) (.t 19)),
      .ite (.t 21) []
       [.ex 2],
      .blk 3 [.o (.mv 22 (.t 20)),
       .o (.mv 10 (.t 22)),
       .o (.mv 23 (.t 7)),
       .o (.len 24 70 (.t 23)),
       .o (.mv 25 (.t 2)),
       .o (.bin 26 .lss 3 (.t 24) (.t 25)),
       .ite (.t 26) [.dr true 17 [.mv 27 (.t 7), .mv 28 (.t 1), .mv 29 (.t 9), .ia 30 25 (.t 28) (.t 29), .ld 31 5 (.t 30), .cv 32 5 3 (.t 31), .fa 33 27 (.t 3) 3, .ld 34 3 (.t 33), .mv 35 (.t 10), .bin 36 .add 3 (.t 35) (.c (.i 1)), .bin 37 .mul 3 (.t 34) (.t 36), .bin 38 .sub 3 (.c (.i 8)) (.t 37), .bin 39 .shr 3 (.t 32) (.t 38), .ld 40 27 (.t 3), .call 41 (.f 107) [(.t 40)], .bin 42 .and 3 (.t 39) (.t 41), .bsl 43 70 1 [(0, (.t 42))], .app 44 70 70 (.t 27) (.t 43), .mv 7 (.t 44)]]
        []],
      .o (.bin 45 .add 3 (.t 20) (.c (.i 1))),
      .o (.mv 20 (.t 45))]]],
   .o (.bin 46 .add 3 (.t 16) (.c (.i 1))),
   .o (.mv 16 (.t 46))]],
 .o (.mv 47 (.t 7)),
 .o (.mv 6 (.t 47)),
 .ret]
theorem cc217 : Tryd.f217.body.map cc = some c217 := by kernel_rfl
theorem rs217 : Tryd.f217.results.toList.map cRS = [.t 6] := by kernel_rfl
end Go.Lv

namespace Go.Lv
open Go Go.Proofs
set_option maxRecDepth 100000
-- FN 31 livery/liveryref07.Sum ntmps 15 params #[4, 3, 25]
def c31 : List C := [.o (.mv 6 (.c .nils)),
 .o (.mv 7 (.t 0)),
 .ite (.t 7) [.o (.mv 8 (.t 1)),
  .o (.mv 9 (.t 2)),
  .o (.call 10 (.f 105) [(.c (.i 256)), (.t 8), (.t 9)]),
  .o (.mv 6 (.t 10)),
  .ret]
  [],
 .o (.mv 11 (.t 2)),
 .o (.call 12 (.f 106) [(.t 11)]),
 .o (.mv 13 (.t 1)),
 .o (.slc 14 25 (.t 12) none (some (.t 13)) none),
 .o (.mv 6 (.t 14)),
 .ret]
theorem cc31 : Tryd.f31.body.map cc = some c31 := by kernel_rfl
theorem rs31 : Tryd.f31.results.toList.map cRS = [.t 6] := by kernel_rfl
-- FN 34 livery/liveryref07.MayChain ntmps 41 params #[27, 3, 3, 3, 25]
def c34 : List C := [.o (.bx 5 27 (.t 0)),
 .o (.mv 10 (.c (.i 0))),
 .o (.ld 12 27 (.t 5)),
 .o (.mv 13 (.t 4)),
 .o (.call 14 (.f 38) [(.t 12), (.t 13)]),
 .o (.mv 11 (.t 14)),
 .o (.mv 15 (.t 11)),
 .o (.bin 16 .neq 40 (.t 15) (.c (.i 0))),
 .ite (.t 16) [.o (.mv 17 (.t 11)),
  .o (.mv 10 (.t 17)),
  .ret]
  [],
 .o (.mv 18 (.t 1)),
 .o (.bin 19 .lss 3 (.t 18) (.c (.i 0))),
 .o (.mv 20 (.t 19)),
 .o (.gd 20 false (.mv 21 (.t 1))),
 .o (.gd 20 false (.fa 22 27 (.t 5) 4)),
 .o (.gd 20 false (.ld 23 3 (.t 22))),
 .o (.gd 20 false (.bin 24 .geq 3 (.t 21) (.t 23))),
 .o (.pick 25 (.t 20) (.c (.b true)) (.t 24)),
 .o (.mv 26 (.t 25)),
 .o (.gd 26 false (.mv 27 (.t 2))),
 .o (.gd 26 false (.bin 28 .lss 3 (.t 27) (.c (.i 0)))),
 .o (.pick 29 (.t 26) (.c (.b true)) (.t 28)),
 .o (.mv 30 (.t 29)),
 .o (.gd 30 false (.mv 31 (.t 3))),
 .o (.gd 30 false (.ld 32 27 (.t 5))),
 .o (.gd 30 false (.call 33 (.f 111) [(.t 32)])),
 .o (.gd 30 false (.bin 34 .gtr 3 (.t 31) (.t 33))),
 .o (.pick 35 (.t 30) (.c (.b true)) (.t 34)),
 .o (.mv 36 (.t 35)),
 .o (.gd 36 false (.mv 37 (.t 2))),
 .o (.gd 36 false (.mv 38 (.t 3))),
 .o (.gd 36 false (.bin 39 .gtr 3 (.t 37) (.t 38))),
 .o (.pick 40 (.t 36) (.c (.b true)) (.t 39)),
 .ite (.t 40) [.o (.mv 10 (.c (.i 1))),
  .ret]
  [],
 .o (.mv 10 (.c (.i 0))),
 .ret]
theorem cc34 : Tryd.f34.body.map cc = some c34 := by kernel_rfl
theorem rs34 : Tryd.f34.results.toList.map cRS = [.t 10] := by kernel_rfl
-- FN 35 livery/liveryref07.Chain ntmps 40 params #[27, 35, 22, 3, 3, 3, 25]
def c35 : List C := [.o (.bx 7 27 (.t 0)),
 .o (.bx 8 35 (.t 1)),
 .o (.mv 14 (.c .nils)),
 .o (.mv 16 (.t 4)),
 .o (.mv 15 (.t 16)),
 .blk 0 [.lp [.o (.mv 17 (.t 15)),
   .o (.mv 18 (.t 5)),
   .o (.bin 19 .lss 3 (.t 17) (.t 18)),
   .ite (.t 19) []
    [.ex 0],
   .blk 1 [.dr true 16 [.fa 22 27 (.t 7) 1, .ld 23 4 (.t 22), .fa 24 27 (.t 7) 2, .ld 25 3 (.t 24), .ld 26 35 (.t 8), .mv 27 (.t 2), .call 28 (.f 112) [(.t 26), (.t 27)], .mv 29 (.t 3), .cv 30 3 83 (.t 29), .call 31 (.f 113) [(.t 30), (.c (.i 2))], .mv 32 (.t 15), .cv 33 3 5 (.t 32), .bsl 34 25 1 [(0, (.t 33))], .mv 35 (.t 6), .bsl 36 23 4 [(0, (.t 28)), (1, (.t 31)), (2, (.t 34)), (3, (.t 35))], .call 37 (.f 32) [(.t 36)], .call 38 (.f 31) [(.t 23), (.t 25), (.t 37)], .mv 6 (.t 38)]],
   .o (.mv 20 (.t 15)),
   .o (.bin 21 .add 3 (.t 20) (.c (.i 1))),
   .o (.mv 15 (.t 21))]],
 .o (.mv 39 (.t 6)),
 .o (.mv 14 (.t 39)),
 .ret]
theorem cc35 : Tryd.f35.body.map cc = some c35 := by kernel_rfl
theorem rs35 : Tryd.f35.results.toList.map cRS = [.t 14] := by kernel_rfl
-- FN 38 livery/liveryref07.May ntmps 13 params #[27, 25]
def c38 : List C := [.o (.bx 2 27 (.t 0)),
 .o (.mv 4 (.c (.i 0))),
 .o (.ld 5 27 (.t 2)),
 .o (.call 6 (.f 29) [(.t 5)]),
 .o (.un 7 .not (.t 6)),
 .ite (.t 7) [.o (.mv 4 (.c (.i 60))),
  .ret]
  [],
 .o (.mv 8 (.t 1)),
 .o (.len 9 25 (.t 8)),
 .o (.fa 10 27 (.t 2) 2),
 .o (.ld 11 3 (.t 10)),
 .o (.bin 12 .neq 3 (.t 9) (.t 11)),
 .ite (.t 12) [.o (.mv 4 (.c (.i 1))),
  .ret]
  [],
 .o (.mv 4 (.c (.i 0))),
 .ret]
theorem cc38 : Tryd.f38.body.map cc = some c38 := by kernel_rfl
theorem rs38 : Tryd.f38.results.toList.map cRS = [.t 4] := by kernel_rfl
-- FN 39 livery/liveryref07.Random ntmps 14 params #[27, 35, 22, 25]
def c39 : List C := [.o (.bx 4 27 (.t 0)),
 .o (.bx 5 35 (.t 1)),
 .o (.mv 8 (.c .nils)),
 .o (.ld 9 27 (.t 4)),
 .o (.ld 10 35 (.t 5)),
 .o (.mv 11 (.t 2)),
 .o (.mv 12 (.t 3)),
 .o (.call 13 (.f 40) [(.t 9), (.t 10), (.t 11), (.t 12), (.c (.i 65533))]),
 .o (.mv 8 (.t 13)),
 .ret]
theorem cc39 : Tryd.f39.body.map cc = some c39 := by kernel_rfl
theorem rs39 : Tryd.f39.results.toList.map cRS = [.t 8] := by kernel_rfl
-- FN 40 livery/liveryref07.Secret ntmps 26 params #[27, 35, 22, 25, 3]
def c40 : List C := [.o (.bx 5 27 (.t 0)),
 .o (.bx 6 35 (.t 1)),
 .o (.mv 10 (.c .nils)),
 .dr true 14 [.fa 11 27 (.t 5) 1, .ld 12 4 (.t 11), .fa 13 27 (.t 5) 2, .ld 14 3 (.t 13), .ld 15 35 (.t 6), .mv 16 (.t 2), .call 17 (.f 112) [(.t 15), (.t 16)], .mv 18 (.t 4), .cv 19 3 83 (.t 18), .call 20 (.f 113) [(.t 19), (.c (.i 2))], .bsl 21 25 1 [(0, (.c (.u8 255)))], .mv 22 (.t 3), .bsl 23 23 4 [(0, (.t 17)), (1, (.t 20)), (2, (.t 21)), (3, (.t 22))], .call 24 (.f 32) [(.t 23)], .call 25 (.f 31) [(.t 12), (.t 14), (.t 24)], .mv 10 (.t 25)],
 .ret]
theorem cc40 : Tryd.f40.body.map cc = some c40 := by kernel_rfl
theorem rs40 : Tryd.f40.results.toList.map cRS = [.t 10] := by kernel_rfl
-- FN 42 livery/liveryref07.Public ntmps 38 params #[27, 35, 22, 25]
def c42 : List C := [.o (.bx 4 27 (.t 0)),
 .o (.bx 5 35 (.t 1)),
 .o (.mv 8 (.c .nils)),
 .o (.bsl 11 25 0 []),
 .o (.mv 9 (.t 11)),
 .o (.fa 12 27 (.t 4) 4),
 .o (.ld 13 3 (.t 12)),
 .o (.mv 14 (.c (.i 0))),
 .blk 0 [.lp [.o (.bin 15 .lss 3 (.t 14) (.t 13)),
   .ite (.t 15) []
    [.ex 0],
   .blk 1 [.o (.mv 16 (.t 14)),
    .o (.mv 10 (.t 16)),
    .dr true 14 [.mv 17 (.t 9), .ld 18 27 (.t 4), .ld 19 35 (.t 5), .mv 20 (.t 2), .mv 21 (.t 10), .ld 22 27 (.t 4), .call 23 (.f 111) [(.t 22)], .ld 24 27 (.t 4), .ld 25 35 (.t 5), .mv 26 (.t 2), .mv 27 (.t 3), .mv 28 (.t 10), .call 29 (.f 40) [(.t 24), (.t 25), (.t 26), (.t 27), (.t 28)], .call 30 (.f 35) [(.t 18), (.t 19), (.t 20), (.t 21), (.c (.i 0)), (.t 23), (.t 29)], .app 31 25 25 (.t 17) (.t 30), .mv 9 (.t 31)]],
   .o (.bin 32 .add 3 (.t 14) (.c (.i 1))),
   .o (.mv 14 (.t 32))]],
 .o (.ld 33 27 (.t 4)),
 .o (.ld 34 35 (.t 5)),
 .o (.mv 35 (.t 2)),
 .o (.mv 36 (.t 9)),
 .o (.call 37 (.f 117) [(.t 33), (.t 34), (.t 35), (.t 36)]),
 .o (.mv 8 (.t 37)),
 .ret]
theorem cc42 : Tryd.f42.body.map cc = some c42 := by kernel_rfl
theorem rs42 : Tryd.f42.results.toList.map cRS = [.t 8] := by kernel_rfl
-- FN 44 livery/liveryref07.Sign ntmps 55 params #[27, 35, 22, 25, 25]
def c44 : List C := [.o (.bx 5 27 (.t 0)),
 .o (.bx 6 35 (.t 1)),
 .o (.mv 10 (.c .nils)),
 .o (.ld 15 27 (.t 5)),
 .o (.ld 16 35 (.t 6)),
 .o (.mv 17 (.t 2)),
 .o (.mv 18 (.t 3)),
 .o (.call 19 (.f 39) [(.t 15), (.t 16), (.t 17), (.t 18)]),
 .o (.mv 11 (.t 19)),
 .o (.fa 20 27 (.t 5) 0),
 .o (.ld 21 22 (.t 20)),
 .o (.cv 22 22 83 (.t 21)),
 .o (.call 23 (.f 113) [(.t 22), (.c (.i 4))]),
 .o (.mv 24 (.t 11)),
 .o (.bsl 25 23 2 [(0, (.t 23)), (1, (.t 24))]),
 .o (.call 26 (.f 32) [(.t 25)]),
 .o (.mv 12 (.t 26)),
 .o (.ld 27 27 (.t 5)),
 .o (.ld 28 35 (.t 6)),
 .o (.mv 29 (.t 2)),
 .o (.mv 30 (.t 11)),
 .o (.mv 31 (.t 4)),
 .o (.call 32 (.f 120) [(.t 27), (.t 28), (.t 29), (.t 30), (.t 31)]),
 .o (.len 33 70 (.t 32)),
 .o (.mv 34 (.c (.i 0))),
 .blk 0 [.lp [.o (.bin 35 .lss 3 (.t 34) (.t 33)),
   .ite (.t 35) []
    [.ex 0],
   .blk 1 [.o (.mv 36 (.t 34)),
    .o (.ia 37 70 (.t 32) (.t 34)),
    .o (.ld 38 3 (.t 37)),
    .o (.mv 13 (.t 36)),
    .o (.mv 14 (.t 38)),
    .dr true 13 [.mv 39 (.t 12), .ld 40 27 (.t 5), .ld 41 35 (.t 6), .mv 42 (.t 2), .mv 43 (.t 13), .mv 44 (.t 14), .ld 45 27 (.t 5), .ld 46 35 (.t 6), .mv 47 (.t 2), .mv 48 (.t 3), .mv 49 (.t 13), .call 50 (.f 40) [(.t 45), (.t 46), (.t 47), (.t 48), (.t 49)], .call 51 (.f 35) [(.t 40), (.t 41), (.t 42), (.t 43), (.c (.i 0)), (.t 44), (.t 50)], .app 52 25 25 (.t 39) (.t 51), .mv 12 (.t 52)]],
   .o (.bin 53 .add 3 (.t 34) (.c (.i 1))),
   .o (.mv 34 (.t 53))]],
 .o (.mv 54 (.t 12)),
 .o (.mv 10 (.t 54)),
 .ret]
theorem cc44 : Tryd.f44.body.map cc = some c44 := by kernel_rfl
theorem rs44 : Tryd.f44.results.toList.map cRS = [.t 10] := by kernel_rfl
-- FN 54 livery/liveryref07.Candidate ntmps 81 params #[27, 35, 22, 25, 25]
def c54 : List C := [.o (.bx 5 27 (.t 0)),
 .o (.bx 6 35 (.t 1)),
 .o (.mv 10 (.c .nils)),
 .o (.mv 11 (.c (.i 0))),
 .dr true 12 [.mv 17 (.t 4), .len 18 25 (.t 17), .ld 19 27 (.t 5), .call 20 (.f 83) [(.t 19)], .bin 21 .neq 3 (.t 18) (.t 20), .mv 22 (.t 21), .gd 22 false (.mv 23 (.t 4)), .gd 22 false (.slc 24 25 (.t 23) none (some (.c (.i 4))) none), .gd 22 false (.fa 25 27 (.t 5) 0), .gd 22 false (.ld 26 22 (.t 25)), .gd 22 false (.cv 27 22 83 (.t 26)), .gd 22 false (.call 28 (.f 113) [(.t 27), (.c (.i 4))]), .gd 22 false (.call 29 (.f 30) [(.t 24), (.t 28)]), .gd 22 false (.un 30 .not (.t 29)), .pick 31 (.t 22) (.c (.b true)) (.t 30)],
 .ite (.t 31) [.o (.mv 10 (.c .nils)),
  .o (.mv 11 (.c (.i 70))),
  .ret]
  [],
 .o (.mv 32 (.t 4)),
 .o (.fa 33 27 (.t 5) 2),
 .o (.ld 34 3 (.t 33)),
 .o (.bin 35 .add 3 (.c (.i 4)) (.t 34)),
 .o (.slc 36 25 (.t 32) (some (.c (.i 4))) (some (.t 35)) none),
 .o (.mv 12 (.t 36)),
 .o (.bsl 37 25 0 []),
 .o (.mv 13 (.t 37)),
 .o (.ld 38 27 (.t 5)),
 .o (.ld 39 35 (.t 6)),
 .o (.mv 40 (.t 2)),
 .o (.mv 41 (.t 12)),
 .o (.mv 42 (.t 3)),
 .o (.call 43 (.f 120) [(.t 38), (.t 39), (.t 40), (.t 41), (.t 42)]),
 .o (.len 44 70 (.t 43)),
 .o (.mv 45 (.c (.i 0))),
 .blk 0 [.lp [.o (.bin 46 .lss 3 (.t 45) (.t 44)),
   .ite (.t 46) []
    [.ex 0],
   .blk 1 [.o (.mv 47 (.t 45)),
    .o (.ia 48 70 (.t 43) (.t 45)),
    .o (.ld 49 3 (.t 48)),
    .o (.mv 14 (.t 47)),
    .o (.mv 15 (.t 49)),
    .o (.fa 50 27 (.t 5) 2),
    .o (.ld 51 3 (.t 50)),
    .o (.bin 52 .add 3 (.c (.i 4)) (.t 51)),
    .o (.mv 53 (.t 14)),
    .o (.fa 54 27 (.t 5) 2),
    .o (.ld 55 3 (.t 54)),
    .o (.bin 56 .mul 3 (.t 53) (.t 55)),
    .o (.bin 57 .add 3 (.t 52) (.t 56)),
    .o (.mv 16 (.t 57)),
    .dr true 16 [.mv 58 (.t 13), .ld 59 27 (.t 5), .ld 60 35 (.t 6), .mv 61 (.t 2), .mv 62 (.t 14), .mv 63 (.t 15), .ld 64 27 (.t 5), .call 65 (.f 111) [(.t 64)], .mv 66 (.t 4), .mv 67 (.t 16), .mv 68 (.t 16), .fa 69 27 (.t 5) 2, .ld 70 3 (.t 69), .bin 71 .add 3 (.t 68) (.t 70), .slc 72 25 (.t 66) (some (.t 67)) (some (.t 71)) none, .call 73 (.f 35) [(.t 59), (.t 60), (.t 61), (.t 62), (.t 63), (.t 65), (.t 72)], .app 74 25 25 (.t 58) (.t 73), .mv 13 (.t 74)]],
   .o (.bin 75 .add 3 (.t 45) (.c (.i 1))),
   .o (.mv 45 (.t 75))]],
 .o (.ld 76 27 (.t 5)),
 .o (.ld 77 35 (.t 6)),
 .o (.mv 78 (.t 2)),
 .o (.mv 79 (.t 13)),
 .o (.call 80 (.f 117) [(.t 76), (.t 77), (.t 78), (.t 79)]),
 .o (.mv 10 (.t 80)),
 .o (.mv 11 (.c (.i 0))),
 .ret]
theorem cc54 : Tryd.f54.body.map cc = some c54 := by kernel_rfl
theorem rs54 : Tryd.f54.results.toList.map cRS = [.t 10, .t 11] := by kernel_rfl
-- FN 111 livery/liveryref07.most ntmps 13 params #[27]
def c111 : List C := [.o (.bx 1 27 (.t 0)),
 .o (.mv 2 (.c (.i 0))),
 .o (.mv 3 (.c (.i 1))),
 .o (.fa 4 27 (.t 1) 3),
 .o (.ld 5 3 (.t 4)),
 .o (.mv 6 (.c (.i 0))),
 .blk 0 [.lp [.o (.bin 7 .lss 3 (.t 6) (.t 5)),
   .ite (.t 7) []
    [.ex 0],
   .blk 1 [.o (.mv 8 (.t 3)),
    .o (.bin 9 .mul 3 (.t 8) (.c (.i 2))),
    .o (.mv 3 (.t 9))],
   .o (.bin 10 .add 3 (.t 6) (.c (.i 1))),
   .o (.mv 6 (.t 10))]],
 .o (.mv 11 (.t 3)),
 .o (.bin 12 .sub 3 (.t 11) (.c (.i 1))),
 .o (.mv 2 (.t 12)),
 .ret]
theorem cc111 : Tryd.f111.body.map cc = some c111 := by kernel_rfl
theorem rs111 : Tryd.f111.results.toList.map cRS = [.t 2] := by kernel_rfl
-- FN 112 livery/liveryref07.head ntmps 11 params #[35, 22]
def c112 : List C := [.o (.bx 2 35 (.t 0)),
 .o (.mv 4 (.c .nils)),
 .dr true 4 [.slc 5 35 (.t 2) none none none, .mv 6 (.t 1), .cv 7 22 83 (.t 6), .call 8 (.f 113) [(.t 7), (.c (.i 4))], .bsl 9 23 2 [(0, (.t 5)), (1, (.t 8))], .call 10 (.f 32) [(.t 9)], .mv 4 (.t 10)],
 .ret]
theorem cc112 : Tryd.f112.body.map cc = some c112 := by kernel_rfl
theorem rs112 : Tryd.f112.results.toList.map cRS = [.t 4] := by kernel_rfl
-- FN 117 livery/liveryref07.shut ntmps 21 params #[27, 35, 22, 25]
def c117 : List C := [.o (.bx 4 27 (.t 0)),
 .o (.bx 5 35 (.t 1)),
 .o (.mv 8 (.c .nils)),
 .dr true 11 [.fa 9 27 (.t 4) 1, .ld 10 4 (.t 9), .fa 11 27 (.t 4) 2, .ld 12 3 (.t 11), .ld 13 35 (.t 5), .mv 14 (.t 2), .call 15 (.f 112) [(.t 13), (.t 14)], .call 16 (.f 113) [(.c (.u64 32896)), (.c (.i 2))], .mv 17 (.t 3), .bsl 18 23 3 [(0, (.t 15)), (1, (.t 16)), (2, (.t 17))], .call 19 (.f 32) [(.t 18)], .call 20 (.f 31) [(.t 10), (.t 12), (.t 19)], .mv 8 (.t 20)],
 .ret]
theorem cc117 : Tryd.f117.body.map cc = some c117 := by kernel_rfl
theorem rs117 : Tryd.f117.results.toList.map cRS = [.t 8] := by kernel_rfl
-- FN 120 livery/liveryref07.said ntmps 26 params #[27, 35, 22, 25, 25]
def c120 : List C := [.o (.bx 5 27 (.t 0)),
 .o (.bx 6 35 (.t 1)),
 .o (.mv 10 (.c .nils)),
 .dr true 14 [.ld 11 27 (.t 5), .fa 12 27 (.t 5) 1, .ld 13 4 (.t 12), .fa 14 27 (.t 5) 2, .ld 15 3 (.t 14), .ld 16 35 (.t 6), .mv 17 (.t 2), .call 18 (.f 112) [(.t 16), (.t 17)], .call 19 (.f 113) [(.c (.u64 33153)), (.c (.i 2))], .mv 20 (.t 3), .mv 21 (.t 4), .bsl 22 23 4 [(0, (.t 18)), (1, (.t 19)), (2, (.t 20)), (3, (.t 21))], .call 23 (.f 32) [(.t 22)], .call 24 (.f 31) [(.t 13), (.t 15), (.t 23)], .call 25 (.f 191) [(.t 11), (.t 24)], .mv 10 (.t 25)],
 .ret]
theorem cc120 : Tryd.f120.body.map cc = some c120 := by kernel_rfl
theorem rs120 : Tryd.f120.results.toList.map cRS = [.t 10] := by kernel_rfl
-- FN 191 livery/liveryref07.Digits ntmps 44 params #[27, 25]
def c191 : List C := [.o (.bx 2 27 (.t 0)),
 .o (.mv 4 (.c .nils)),
 .o (.mv 9 (.t 1)),
 .o (.fa 10 27 (.t 2) 3),
 .o (.ld 11 3 (.t 10)),
 .o (.call 12 (.f 230) [(.t 9), (.t 11)]),
 .o (.mv 5 (.t 12)),
 .o (.mv 6 (.c (.i 0))),
 .o (.mv 13 (.t 5)),
 .o (.len 14 70 (.t 13)),
 .o (.mv 15 (.c (.i 0))),
 .blk 0 [.lp [.o (.bin 16 .lss 3 (.t 15) (.t 14)),
   .ite (.t 16) []
    [.ex 0],
   .blk 1 [.o (.ia 17 70 (.t 13) (.t 15)),
    .o (.ld 18 3 (.t 17)),
    .o (.mv 8 (.t 18)),
    .o (.mv 19 (.t 6)),
    .o (.ld 20 27 (.t 2)),
    .o (.call 21 (.f 111) [(.t 20)]),
    .o (.mv 22 (.t 8)),
    .o (.bin 23 .sub 3 (.t 21) (.t 22)),
    .o (.bin 24 .add 3 (.t 19) (.t 23)),
    .o (.mv 6 (.t 24))],
   .o (.bin 25 .add 3 (.t 15) (.c (.i 1))),
   .o (.mv 15 (.t 25))]],
 .o (.fa 26 27 (.t 2) 5),
 .o (.ld 27 3 (.t 26)),
 .o (.mv 28 (.c (.i 0))),
 .blk 2 [.lp [.o (.bin 29 .lss 3 (.t 28) (.t 27)),
   .ite (.t 29) []
    [.ex 2],
   .blk 3 [.o (.mv 30 (.t 6)),
    .o (.bin 31 .mul 3 (.t 30) (.c (.i 2))),
    .o (.mv 6 (.t 31))],
   .o (.bin 32 .add 3 (.t 28) (.c (.i 1))),
   .o (.mv 28 (.t 32))]],
 .dr true 10 [.mv 33 (.t 5), .mv 34 (.t 6), .cv 35 3 83 (.t 34), .call 36 (.f 113) [(.t 35), (.c (.i 2))], .fa 37 27 (.t 2) 3, .ld 38 3 (.t 37), .call 39 (.f 230) [(.t 36), (.t 38)], .app 40 70 70 (.t 33) (.t 39), .fa 41 27 (.t 2) 4, .ld 42 3 (.t 41), .slc 43 70 (.t 40) none (some (.t 42)) none, .mv 4 (.t 43)],
 .ret]
theorem cc191 : Tryd.f191.body.map cc = some c191 := by kernel_rfl
theorem rs191 : Tryd.f191.results.toList.map cRS = [.t 4] := by kernel_rfl
-- FN 230 livery/liveryref07.pieces ntmps 46 params #[25, 3]
def c230 : List C := [.o (.mv 4 (.c .nils)),
 .o (.bsl 11 70 0 []),
 .o (.mv 5 (.t 11)),
 .o (.mv 12 (.t 0)),
 .o (.len 13 25 (.t 12)),
 .o (.mv 14 (.c (.i 0))),
 .blk 0 [.lp [.o (.bin 15 .lss 3 (.t 14) (.t 13)),
   .ite (.t 15) []
    [.ex 0],
   .blk 1 [.o (.ia 16 25 (.t 12) (.t 14)),
    .o (.ld 17 5 (.t 16)),
    .o (.mv 7 (.t 17)),
    .o (.mv 18 (.t 7)),
    .o (.cv 19 5 3 (.t 18)),
    .o (.mv 8 (.t 19)),
    .o (.bsl 20 70 0 []),
    .o (.mv 9 (.t 20)),
    .o (.mv 21 (.t 1)),
    .o (.bin 22 .quo 3 (.c (.i 8)) (.t 21)),
    .o (.mv 23 (.c (.i 0))),
    .blk 2 [.lp [.o (.bin 24 .lss 3 (.t 23) (.t 22)),
      .ite (.t 24) []
       [.ex 2],
      .blk 3 [.o (.mv 10 (.c (.i 1))),
       .o (.mv 25 (.t 1)),
       .o (.mv 26 (.c (.i 0))),
       .blk 4 [.lp [.o (.bin 27 .lss 3 (.t 26) (.t 25)),
         .ite (.t 27) []
          [.ex 4],
         .blk 5 [.o (.mv 28 (.t 10)),
          .o (.bin 29 .mul 3 (.t 28) (.c (.i 2))),
          .o (.mv 10 (.t 29))],
         .o (.bin 30 .add 3 (.t 26) (.c (.i 1))),
         .o (.mv 26 (.t 30))]],
       .o (.mv 31 (.t 8)),
       .o (.mv 32 (.t 10)),
       .o (.bin 33 .rem 3 (.t 31) (.t 32)),
       .o (.bsl 34 70 1 [(0, (.t 33))]),
       .o (.mv 35 (.t 9)),
       .o (.app 36 70 70 (.t 34) (.t 35)),
       .o (.mv 9 (.t 36)),
       .o (.mv 37 (.t 8)),
       .o (.mv 38 (.t 10)),
       .o (.bin 39 .quo 3 (.t 37) (.t 38)),
       .o (.mv 8 (.t 39))],
      .o (.bin 40 .add 3 (.t 23) (.c (.i 1))),
      .o (.mv 23 (.t 40))]],
    .o (.mv 41 (.t 5)),
    .o (.mv 42 (.t 9)),
    .o (.app 43 70 70 (.t 41) (.t 42)),
    .o (.mv 5 (.t 43))],
   .o (.bin 44 .add 3 (.t 14) (.c (.i 1))),
   .o (.mv 14 (.t 44))]],
 .o (.mv 45 (.t 5)),
 .o (.mv 4 (.t 45)),
 .ret]
theorem cc230 : Tryd.f230.body.map cc = some c230 := by kernel_rfl
theorem rs230 : Tryd.f230.results.toList.map cRS = [.t 4] := by kernel_rfl
end Go.Lv

namespace Go.Lv
open Go Go.Proofs
set_option maxRecDepth 100000
-- FN 248 math/bits.RotateLeft64 ntmps 17 params #[83, 3]
def c248 : List C := [.o (.mv 4 (.c (.u64 0))),
 .o (.mv 6 (.t 1)),
 .o (.cv 7 3 235 (.t 6)),
 .o (.bin 8 .and 235 (.t 7) (.c (.u64 63))),
 .o (.mv 5 (.t 8)),
 .o (.mv 9 (.t 0)),
 .o (.mv 10 (.t 5)),
 .o (.bin 11 .shl 83 (.t 9) (.t 10)),
 .o (.mv 12 (.t 0)),
 .o (.mv 13 (.t 5)),
 .o (.bin 14 .sub 235 (.c (.u64 64)) (.t 13)),
 .o (.bin 15 .shr 83 (.t 12) (.t 14)),
 .o (.bin 16 .or 83 (.t 11) (.t 15)),
 .o (.mv 4 (.t 16)),
 .ret]
theorem cc248 : Tryd.f248.body.map cc = some c248 := by kernel_rfl
theorem rs248 : Tryd.f248.results.toList.map cRS = [.t 4] := by kernel_rfl
-- FN 249 math/bits.RotateLeft32 ntmps 17 params #[22, 3]
def c249 : List C := [.o (.mv 4 (.c (.u32 0))),
 .o (.mv 6 (.t 1)),
 .o (.cv 7 3 235 (.t 6)),
 .o (.bin 8 .and 235 (.t 7) (.c (.u64 31))),
 .o (.mv 5 (.t 8)),
 .o (.mv 9 (.t 0)),
 .o (.mv 10 (.t 5)),
 .o (.bin 11 .shl 22 (.t 9) (.t 10)),
 .o (.mv 12 (.t 0)),
 .o (.mv 13 (.t 5)),
 .o (.bin 14 .sub 235 (.c (.u64 32)) (.t 13)),
 .o (.bin 15 .shr 22 (.t 12) (.t 14)),
 .o (.bin 16 .or 22 (.t 11) (.t 15)),
 .o (.mv 4 (.t 16)),
 .ret]
theorem cc249 : Tryd.f249.body.map cc = some c249 := by kernel_rfl
theorem rs249 : Tryd.f249.results.toList.map cRS = [.t 4] := by kernel_rfl
end Go.Lv

namespace Go.Lv
open Go Go.Proofs
set_option maxRecDepth 100000
-- FN 104 livery/sha2.Sum256 ntmps 10 params #[23]
def c104 : List C := [.o (.al 2 76),
 .o (.call 4 (.f 183) []),
 .o (.mv 3 (.t 4)),
 .o (.mv 5 (.t 3)),
 .o (.mv 6 (.t 0)),
 .o (.call 7 (.f 184) [(.t 5), (.t 6)]),
 .o (.mv 8 (.t 3)),
 .o (.call 9 (.f 185) [(.t 8)]),
 .o (.st 76 (.t 2) (.t 9)),
 .ret]
theorem cc104 : Tryd.f104.body.map cc = some c104 := by kernel_rfl
theorem rs104 : Tryd.f104.results.toList.map cRS = [.c 2 76] := by kernel_rfl
-- FN 183 livery/sha2.New ntmps 4 params #[]
def c183 : List C := [.o (.mv 0 (.c .nilp)),
 .o (.ld 1 57 (.g 0)),
 .o (.bld 2 261 [(0, (.c (.b true))), (1, (.t 1))]),
 .o (.bx 3 261 (.t 2)),
 .o (.mv 0 (.t 3)),
 .ret]
theorem cc183 : Tryd.f183.body.map cc = some c183 := by kernel_rfl
theorem rs183 : Tryd.f183.results.toList.map cRS = [.t 0] := by kernel_rfl
-- FN 184 (*livery/sha2.Hash).Write ntmps 19 params #[216, 23]
def c184 : List C := [.o (.mv 4 (.c (.i 0))),
 .o (.mv 7 (.t 0)),
 .o (.call 8 (.f 222) [(.t 7)]),
 .ite (.t 8) [.o (.mv 4 (.c (.i 2))),
  .ret]
  [],
 .o (.mv 9 (.t 1)),
 .o (.len 10 23 (.t 9)),
 .o (.mv 11 (.c (.i 0))),
 .blk 0 [.lp [.o (.bin 12 .lss 3 (.t 11) (.t 10)),
   .ite (.t 12) []
    [.ex 0],
   .blk 1 [.o (.ia 13 23 (.t 9) (.t 11)),
    .o (.ld 14 25 (.t 13)),
    .o (.mv 6 (.t 14)),
    .o (.mv 15 (.t 0)),
    .o (.mv 16 (.t 6)),
    .o (.call 17 (.f 223) [(.t 15), (.t 16)])],
   .o (.bin 18 .add 3 (.t 11) (.c (.i 1))),
   .o (.mv 11 (.t 18))]],
 .o (.mv 4 (.c (.i 0))),
 .ret]
theorem cc184 : Tryd.f184.body.map cc = some c184 := by kernel_rfl
theorem rs184 : Tryd.f184.results.toList.map cRS = [.t 4] := by kernel_rfl
-- FN 185 (*livery/sha2.Hash).Sum ntmps 44 params #[216]
def c185 : List C := [.o (.al 2 76),
 .o (.al 3 76),
 .o (.mv 8 (.t 0)),
 .o (.call 9 (.f 222) [(.t 8)]),
 .ite (.t 9) [.o (.ld 10 76 (.t 3)),
  .o (.st 76 (.t 2) (.t 10)),
  .ret]
  [],
 .o (.mv 11 (.t 0)),
 .o (.nc 12 (.t 11)),
 .o (.ld 13 261 (.t 12)),
 .o (.al 4 261),
 .o (.st 261 (.t 4) (.t 13)),
 .o (.mv 14 (.t 0)),
 .o (.nc 15 (.t 14)),
 .o (.fa 16 261 (.t 15) 4),
 .o (.ld 17 3 (.t 16)),
 .o (.cv 18 3 83 (.t 17)),
 .o (.bin 19 .mul 83 (.c (.u64 8)) (.t 18)),
 .o (.mv 5 (.t 19)),
 .o (.bsl 20 25 1 [(0, (.c (.u8 128)))]),
 .o (.call 21 (.f 223) [(.t 4), (.t 20)]),
 .blk 0 [.lp [.o (.fa 22 261 (.t 4) 3),
   .o (.ld 23 3 (.t 22)),
   .o (.bin 24 .neq 3 (.t 23) (.c (.i 56))),
   .ite (.t 24) []
    [.ex 0],
   .blk 1 [.o (.bsl 25 25 1 [(0, (.c (.u8 0)))]),
    .o (.call 26 (.f 223) [(.t 4), (.t 25)])]]],
 .o (.mv 27 (.t 5)),
 .o (.call 28 (.f 224) [(.t 27)]),
 .o (.call 29 (.f 223) [(.t 4), (.t 28)]),
 .o (.fa 30 261 (.t 4) 1),
 .o (.ld 31 57 (.t 30)),
 .o (.mv 32 (.c (.i 0))),
 .blk 2 [.lp [.o (.bin 33 .lss 3 (.t 32) (.c (.i 8))),
   .ite (.t 33) []
    [.ex 2],
   .blk 3 [.o (.mv 34 (.t 32)),
    .o (.ixv 35 57 (.t 31) (.t 32)),
    .o (.mv 6 (.t 34)),
    .o (.mv 7 (.t 35)),
    .dr true 5 [.mv 36 (.t 6), .bin 37 .mul 3 (.c (.i 4)) (.t 36), .slc 38 76 (.t 3) (some (.t 37)) none none, .mv 39 (.t 7), .call 40 (.f 118) [(.t 39)], .cpy 41 25 25 (.t 38) (.t 40)]],
   .o (.bin 42 .add 3 (.t 32) (.c (.i 1))),
   .o (.mv 32 (.t 42))]],
 .o (.ld 43 76 (.t 3)),
 .o (.st 76 (.t 2) (.t 43)),
 .ret]
theorem cc185 : Tryd.f185.body.map cc = some c185 := by kernel_rfl
theorem rs185 : Tryd.f185.results.toList.map cRS = [.c 2 76] := by kernel_rfl
-- FN 222 (*livery/sha2.Hash).none ntmps 12 params #[216]
def c222 : List C := [.o (.mv 2 (.c (.b false))),
 .o (.mv 3 (.t 0)),
 .o (.bin 4 .eql 216 (.t 3) (.c .nilp)),
 .o (.mv 5 (.t 4)),
 .o (.gd 5 false (.mv 6 (.t 0))),
 .o (.gd 5 false (.nc 7 (.t 6))),
 .o (.gd 5 false (.fa 8 261 (.t 7) 0)),
 .o (.gd 5 false (.ld 9 4 (.t 8))),
 .o (.gd 5 false (.un 10 .not (.t 9))),
 .o (.pick 11 (.t 5) (.c (.b true)) (.t 10)),
 .o (.mv 2 (.t 11)),
 .ret]
theorem cc222 : Tryd.f222.body.map cc = some c222 := by kernel_rfl
theorem rs222 : Tryd.f222.results.toList.map cRS = [.t 2] := by kernel_rfl
-- FN 223 (*livery/sha2.Hash).put ntmps 58 params #[216, 25]
def c223 : List C := [.o (.mv 5 (.t 0)),
 .o (.nc 6 (.t 5)),
 .o (.fa 7 261 (.t 6) 4),
 .o (.ld 8 3 (.t 7)),
 .o (.mv 9 (.t 1)),
 .o (.len 10 25 (.t 9)),
 .o (.bin 11 .add 3 (.t 8) (.t 10)),
 .o (.nc 12 (.t 5)),
 .o (.fa 13 261 (.t 12) 4),
 .o (.st 3 (.t 13) (.t 11)),
 .blk 0 [.lp [.o (.mv 14 (.t 1)),
   .o (.len 15 25 (.t 14)),
   .o (.bin 16 .gtr 3 (.t 15) (.c (.i 0))),
   .ite (.t 16) []
    [.ex 0],
   .blk 1 [.dr true 9 [.mv 17 (.t 0), .nc 18 (.t 17), .fa 19 261 (.t 18) 2, .mv 20 (.t 0), .nc 21 (.t 20), .fa 22 261 (.t 21) 3, .ld 23 3 (.t 22), .slc 24 222 (.t 19) (some (.t 23)) none none, .mv 25 (.t 1), .cpy 26 25 25 (.t 24) (.t 25), .mv 4 (.t 26)],
    .o (.mv 27 (.t 0)),
    .o (.nc 28 (.t 27)),
    .o (.fa 29 261 (.t 28) 3),
    .o (.ld 30 3 (.t 29)),
    .o (.mv 31 (.t 4)),
    .o (.bin 32 .add 3 (.t 30) (.t 31)),
    .o (.nc 33 (.t 27)),
    .o (.fa 34 261 (.t 33) 3),
    .o (.st 3 (.t 34) (.t 32)),
    .o (.mv 35 (.t 1)),
    .o (.mv 36 (.t 4)),
    .o (.slc 37 25 (.t 35) (some (.t 36)) none none),
    .o (.mv 1 (.t 37)),
    .o (.mv 38 (.t 0)),
    .o (.nc 39 (.t 38)),
    .o (.fa 40 261 (.t 39) 3),
    .o (.ld 41 3 (.t 40)),
    .o (.bin 42 .eql 3 (.t 41) (.c (.i 64))),
    .ite (.t 42) [.dr true 10 [.mv 43 (.t 0), .mv 44 (.t 0), .nc 45 (.t 44), .fa 46 261 (.t 45) 1, .ld 47 57 (.t 46), .mv 48 (.t 0), .nc 49 (.t 48), .fa 50 261 (.t 49) 2, .ld 51 222 (.t 50), .call 52 (.f 237) [(.t 47), (.t 51)], .nc 53 (.t 43), .fa 54 261 (.t 53) 1, .st 57 (.t 54) (.t 52)],
     .o (.mv 55 (.t 0)),
     .o (.nc 56 (.t 55)),
     .o (.fa 57 261 (.t 56) 3),
     .o (.st 3 (.t 57) (.c (.i 0)))]
     []]]]]
theorem cc223 : Tryd.f223.body.map cc = some c223 := by kernel_rfl
theorem rs223 : Tryd.f223.results.toList.map cRS = [] := by kernel_rfl
-- FN 237 livery/sha2.Compress ntmps 131 params #[57, 222]
def c237 : List C := [.o (.bx 2 57 (.t 0)),
 .o (.bx 3 222 (.t 1)),
 .o (.al 4 57),
 .o (.ld 17 222 (.t 3)),
 .o (.call 18 (.f 245) [(.t 17)]),
 .o (.al 5 265),
 .o (.st 265 (.t 5) (.t 18)),
 .dr true 23 [.ia 19 57 (.t 2) (.c (.i 0)), .ld 20 22 (.t 19), .ia 21 57 (.t 2) (.c (.i 1)), .ld 22 22 (.t 21), .ia 23 57 (.t 2) (.c (.i 2)), .ld 24 22 (.t 23), .ia 25 57 (.t 2) (.c (.i 3)), .ld 26 22 (.t 25), .ia 27 57 (.t 2) (.c (.i 4)), .ld 28 22 (.t 27), .ia 29 57 (.t 2) (.c (.i 5)), .ld 30 22 (.t 29), .ia 31 57 (.t 2) (.c (.i 6)), .ld 32 22 (.t 31), .ia 33 57 (.t 2) (.c (.i 7)), .ld 34 22 (.t 33), .mv 6 (.t 20), .mv 7 (.t 22), .mv 8 (.t 24), .mv 9 (.t 26), .mv 10 (.t 28), .mv 11 (.t 30), .mv 12 (.t 32), .mv 13 (.t 34)],
 .o (.mv 35 (.c (.i 0))),
 .blk 0 [.lp [.o (.bin 36 .lss 3 (.t 35) (.c (.i 64))),
   .ite (.t 36) []
    [.ex 0],
   .blk 1 [.o (.mv 37 (.t 35)),
    .o (.mv 14 (.t 37)),
    .dr true 26 [.mv 38 (.t 13), .mv 39 (.t 10), .call 40 (.f 246) [(.t 39), (.c (.i 6))], .mv 41 (.t 10), .call 42 (.f 246) [(.t 41), (.c (.i 11))], .bin 43 .xor 22 (.t 40) (.t 42), .mv 44 (.t 10), .call 45 (.f 246) [(.t 44), (.c (.i 25))], .bin 46 .xor 22 (.t 43) (.t 45), .bin 47 .add 22 (.t 38) (.t 46), .mv 48 (.t 10), .mv 49 (.t 11), .bin 50 .and 22 (.t 48) (.t 49), .mv 51 (.t 10), .un 52 .xor (.t 51), .mv 53 (.t 12), .bin 54 .and 22 (.t 52) (.t 53), .bin 55 .xor 22 (.t 50) (.t 54), .bin 56 .add 22 (.t 47) (.t 55), .mv 57 (.t 14), .ia 58 265 (.g 1) (.t 57), .ld 59 22 (.t 58), .bin 60 .add 22 (.t 56) (.t 59), .mv 61 (.t 14), .ia 62 265 (.t 5) (.t 61), .ld 63 22 (.t 62), .bin 64 .add 22 (.t 60) (.t 63), .mv 15 (.t 64)],
    .o (.mv 65 (.t 6)),
    .o (.call 66 (.f 246) [(.t 65), (.c (.i 2))]),
    .o (.mv 67 (.t 6)),
    .o (.call 68 (.f 246) [(.t 67), (.c (.i 13))]),
    .o (.bin 69 .xor 22 (.t 66) (.t 68)),
    .o (.mv 70 (.t 6)),
    .o (.call 71 (.f 246) [(.t 70), (.c (.i 22))]),
    .o (.bin 72 .xor 22 (.t 69) (.t 71)),
    .o (.mv 73 (.t 6)),
    .o (.mv 74 (.t 7)),
    .o (.bin 75 .and 22 (.t 73) (.t 74)),
    .o (.mv 76 (.t 6)),
    .o (.mv 77 (.t 8)),
    .o (.bin 78 .and 22 (.t 76) (.t 77)),
    .o (.bin 79 .xor 22 (.t 75) (.t 78)),
    .o (.mv 80 (.t 7)),
    .o (.mv 81 (.t 8)),
    .o (.bin 82 .and 22 (.t 80) (.t 81)),
    .o (.bin 83 .xor 22 (.t 79) (.t 82)),
    .o (.bin 84 .add 22 (.t 72) (.t 83)),
    .o (.mv 16 (.t 84)),
    .o (.mv 85 (.t 12)),
    .o (.mv 86 (.t 11)),
    .o (.mv 87 (.t 10)),
    .o (.mv 88 (.t 9)),
    .o (.mv 89 (.t 15)),
    .o (.bin 90 .add 22 (.t 88) (.t 89)),
    .o (.mv 91 (.t 8)),
    .o (.mv 92 (.t 7)),
    .o (.mv 93 (.t 6)),
    .o (.mv 94 (.t 15)),
    .o (.mv 95 (.t 16)),
    .o (.bin 96 .add 22 (.t 94) (.t 95)),
    .o (.mv 13 (.t 85)),
    .o (.mv 12 (.t 86)),
    .o (.mv 11 (.t 87)),
    .o (.mv 10 (.t 90)),
    .o (.mv 9 (.t 91)),
    .o (.mv 8 (.t 92)),
    .o (.mv 7 (.t 93)),
    .o (.mv 6 (.t 96))],
   .o (.bin 97 .add 3 (.t 35) (.c (.i 1))),
   .o (.mv 35 (.t 97))]],
 .o (.ia 98 57 (.t 2) (.c (.i 0))),
 .o (.ld 99 22 (.t 98)),
 .o (.mv 100 (.t 6)),
 .o (.bin 101 .add 22 (.t 99) (.t 100)),
 .o (.ia 102 57 (.t 2) (.c (.i 1))),
 .o (.ld 103 22 (.t 102)),
 .o (.mv 104 (.t 7)),
 .o (.bin 105 .add 22 (.t 103) (.t 104)),
 .o (.ia 106 57 (.t 2) (.c (.i 2))),
 .o (.ld 107 22 (.t 106)),
 .o (.mv 108 (.t 8)),
 .o (.bin 109 .add 22 (.t 107) (.t 108)),
 .o (.ia 110 57 (.t 2) (.c (.i 3))),
 .o (.ld 111 22 (.t 110)),
 .o (.mv 112 (.t 9)),
 .o (.bin 113 .add 22 (.t 111) (.t 112)),
 .o (.ia 114 57 (.t 2) (.c (.i 4))),
 .o (.ld 115 22 (.t 114)),
 .o (.mv 116 (.t 10)),
 .o (.bin 117 .add 22 (.t 115) (.t 116)),
 .o (.ia 118 57 (.t 2) (.c (.i 5))),
 .o (.ld 119 22 (.t 118)),
 .o (.mv 120 (.t 11)),
 .o (.bin 121 .add 22 (.t 119) (.t 120)),
 .o (.ia 122 57 (.t 2) (.c (.i 6))),
 .o (.ld 123 22 (.t 122)),
 .o (.mv 124 (.t 12)),
 .o (.bin 125 .add 22 (.t 123) (.t 124)),
 .o (.ia 126 57 (.t 2) (.c (.i 7))),
 .o (.ld 127 22 (.t 126)),
 .o (.mv 128 (.t 13)),
 .o (.bin 129 .add 22 (.t 127) (.t 128)),
 .o (.bld 130 57 [(0, (.t 101)), (1, (.t 105)), (2, (.t 109)), (3, (.t 113)), (4, (.t 117)), (5, (.t 121)), (6, (.t 125)), (7, (.t 129))]),
 .o (.st 57 (.t 4) (.t 130)),
 .ret]
theorem cc237 : Tryd.f237.body.map cc = some c237 := by kernel_rfl
theorem rs237 : Tryd.f237.results.toList.map cRS = [.c 4 57] := by kernel_rfl
-- FN 245 livery/sha2.schedule ntmps 89 params #[222]
def c245 : List C := [.o (.bx 1 222 (.t 0)),
 .o (.al 2 265),
 .o (.al 3 265),
 .o (.mv 10 (.c (.i 0))),
 .blk 0 [.lp [.o (.bin 11 .lss 3 (.t 10) (.c (.i 16))),
   .ite (.t 11) []
    [.ex 0],
   .blk 1 [.o (.mv 12 (.t 10)),
    .o (.mv 4 (.t 12)),
    .dr true 30 [.mv 13 (.t 4), .mv 14 (.t 4), .bin 15 .mul 3 (.c (.i 4)) (.t 14), .ia 16 222 (.t 1) (.t 15), .ld 17 5 (.t 16), .cv 18 5 22 (.t 17), .bin 19 .shl 22 (.t 18) (.c (.u64 24)), .mv 20 (.t 4), .bin 21 .mul 3 (.c (.i 4)) (.t 20), .bin 22 .add 3 (.t 21) (.c (.i 1)), .ia 23 222 (.t 1) (.t 22), .ld 24 5 (.t 23), .cv 25 5 22 (.t 24), .bin 26 .shl 22 (.t 25) (.c (.u64 16)), .bin 27 .or 22 (.t 19) (.t 26), .mv 28 (.t 4), .bin 29 .mul 3 (.c (.i 4)) (.t 28), .bin 30 .add 3 (.t 29) (.c (.i 2)), .ia 31 222 (.t 1) (.t 30), .ld 32 5 (.t 31), .cv 33 5 22 (.t 32), .bin 34 .shl 22 (.t 33) (.c (.u64 8)), .bin 35 .or 22 (.t 27) (.t 34), .mv 36 (.t 4), .bin 37 .mul 3 (.c (.i 4)) (.t 36), .bin 38 .add 3 (.t 37) (.c (.i 3)), .ia 39 222 (.t 1) (.t 38), .ld 40 5 (.t 39), .cv 41 5 22 (.t 40), .bin 42 .or 22 (.t 35) (.t 41), .ia 43 265 (.t 3) (.t 13), .st 22 (.t 43) (.t 42)]],
   .o (.bin 44 .add 3 (.t 10) (.c (.i 1))),
   .o (.mv 10 (.t 44))]],
 .o (.mv 5 (.c (.i 16))),
 .blk 2 [.lp [.o (.mv 45 (.t 5)),
   .o (.bin 46 .lss 3 (.t 45) (.c (.i 64))),
   .ite (.t 46) []
    [.ex 2],
   .blk 3 [.dr true 9 [.mv 49 (.t 5), .bin 50 .sub 3 (.t 49) (.c (.i 15)), .ia 51 265 (.t 3) (.t 50), .ld 52 22 (.t 51), .mv 53 (.t 5), .bin 54 .sub 3 (.t 53) (.c (.i 2)), .ia 55 265 (.t 3) (.t 54), .ld 56 22 (.t 55), .mv 6 (.t 52), .mv 7 (.t 56)],
    .o (.mv 57 (.t 6)),
    .o (.call 58 (.f 246) [(.t 57), (.c (.i 7))]),
    .o (.mv 59 (.t 6)),
    .o (.call 60 (.f 246) [(.t 59), (.c (.i 18))]),
    .o (.bin 61 .xor 22 (.t 58) (.t 60)),
    .o (.mv 62 (.t 6)),
    .o (.bin 63 .shr 22 (.t 62) (.c (.u64 3))),
    .o (.bin 64 .xor 22 (.t 61) (.t 63)),
    .o (.mv 8 (.t 64)),
    .o (.mv 65 (.t 7)),
    .o (.call 66 (.f 246) [(.t 65), (.c (.i 17))]),
    .o (.mv 67 (.t 7)),
    .o (.call 68 (.f 246) [(.t 67), (.c (.i 19))]),
    .o (.bin 69 .xor 22 (.t 66) (.t 68)),
    .o (.mv 70 (.t 7)),
    .o (.bin 71 .shr 22 (.t 70) (.c (.u64 10))),
    .o (.bin 72 .xor 22 (.t 69) (.t 71)),
    .o (.mv 9 (.t 72)),
    .dr true 14 [.mv 73 (.t 5), .mv 74 (.t 9), .mv 75 (.t 5), .bin 76 .sub 3 (.t 75) (.c (.i 7)), .ia 77 265 (.t 3) (.t 76), .ld 78 22 (.t 77), .bin 79 .add 22 (.t 74) (.t 78), .mv 80 (.t 8), .bin 81 .add 22 (.t 79) (.t 80), .mv 82 (.t 5), .bin 83 .sub 3 (.t 82) (.c (.i 16)), .ia 84 265 (.t 3) (.t 83), .ld 85 22 (.t 84), .bin 86 .add 22 (.t 81) (.t 85), .ia 87 265 (.t 3) (.t 73), .st 22 (.t 87) (.t 86)]],
   .o (.mv 47 (.t 5)),
   .o (.bin 48 .add 3 (.t 47) (.c (.i 1))),
   .o (.mv 5 (.t 48))]],
 .o (.ld 88 265 (.t 3)),
 .o (.st 265 (.t 2) (.t 88)),
 .ret]
theorem cc245 : Tryd.f245.body.map cc = some c245 := by kernel_rfl
theorem rs245 : Tryd.f245.results.toList.map cRS = [.c 2 265] := by kernel_rfl
-- FN 246 livery/sha2.right ntmps 9 params #[22, 3]
def c246 : List C := [.o (.mv 4 (.c (.u32 0))),
 .o (.mv 5 (.t 0)),
 .o (.mv 6 (.t 1)),
 .o (.un 7 .neg (.t 6)),
 .o (.call 8 (.f 249) [(.t 5), (.t 7)]),
 .o (.mv 4 (.t 8)),
 .ret]
theorem cc246 : Tryd.f246.body.map cc = some c246 := by kernel_rfl
theorem rs246 : Tryd.f246.results.toList.map cRS = [.t 4] := by kernel_rfl
end Go.Lv

namespace Go.Lv
open Go Go.Proofs
set_option maxRecDepth 100000
-- FN 106 livery/liveryref02.Sum256 ntmps 65 params #[25]
def c106 : List C := [.o (.mv 2 (.c .nils)),
 .o (.mv 10 (.t 0)),
 .o (.bsl 11 25 1 [(0, (.c (.u8 128)))]),
 .o (.bsl 12 23 2 [(0, (.t 10)), (1, (.t 11))]),
 .o (.call 13 (.f 32) [(.t 12)]),
 .o (.mv 3 (.t 13)),
 .blk 0 [.lp [.o (.mv 14 (.t 3)),
   .o (.len 15 25 (.t 14)),
   .o (.bin 16 .rem 3 (.t 15) (.c (.i 64))),
   .o (.bin 17 .neq 3 (.t 16) (.c (.i 56))),
   .ite (.t 17) []
    [.ex 0],
   .blk 1 [.o (.mv 18 (.t 3)),
    .o (.bsl 19 25 1 [(0, (.c (.u8 0)))]),
    .o (.app 20 25 25 (.t 18) (.t 19)),
    .o (.mv 3 (.t 20))]]],
 .o (.mv 21 (.t 3)),
 .o (.mv 22 (.t 0)),
 .o (.len 23 25 (.t 22)),
 .o (.cv 24 3 83 (.t 23)),
 .o (.bin 25 .mul 83 (.c (.u64 8)) (.t 24)),
 .o (.call 26 (.f 113) [(.t 25), (.c (.i 8))]),
 .o (.bsl 27 23 2 [(0, (.t 21)), (1, (.t 26))]),
 .o (.call 28 (.f 32) [(.t 27)]),
 .o (.mv 3 (.t 28)),
 .o (.call 29 (.f 187) []),
 .o (.al 4 57),
 .o (.st 57 (.t 4) (.t 29)),
 .o (.mv 5 (.c (.i 0))),
 .blk 2 [.lp [.o (.mv 30 (.t 5)),
   .o (.mv 31 (.t 3)),
   .o (.len 32 25 (.t 31)),
   .o (.bin 33 .lss 3 (.t 30) (.t 32)),
   .ite (.t 33) []
    [.ex 2],
   .blk 3 [.o (.al 6 222),
    .o (.mv 36 (.c (.i 0))),
    .blk 4 [.lp [.o (.bin 37 .lss 3 (.t 36) (.c (.i 64))),
      .ite (.t 37) []
       [.ex 4],
      .blk 5 [.o (.mv 38 (.t 36)),
       .o (.mv 7 (.t 38)),
       .o (.mv 39 (.t 7)),
       .o (.mv 40 (.t 3)),
       .o (.mv 41 (.t 5)),
       .o (.mv 42 (.t 7)),
       .o (.bin 43 .add 3 (.t 41) (.t 42)),
       .o (.ia 44 25 (.t 40) (.t 43)),
       .o (.ld 45 5 (.t 44)),
       .o (.ia 46 222 (.t 6) (.t 39)),
       .o (.st 5 (.t 46) (.t 45))],
      .o (.bin 47 .add 3 (.t 36) (.c (.i 1))),
      .o (.mv 36 (.t 47))]],
    .o (.ld 48 57 (.t 4)),
    .o (.ld 49 222 (.t 6)),
    .o (.call 50 (.f 188) [(.t 48), (.t 49)]),
    .o (.st 57 (.t 4) (.t 50))],
   .o (.mv 34 (.t 5)),
   .o (.bin 35 .add 3 (.t 34) (.c (.i 64))),
   .o (.mv 5 (.t 35))]],
 .o (.bsl 51 25 0 []),
 .o (.mv 8 (.t 51)),
 .o (.mv 52 (.c (.i 0))),
 .blk 6 [.lp [.o (.bin 53 .lss 3 (.t 52) (.c (.i 8))),
   .ite (.t 53) []
    [.ex 6],
   .blk 7 [.o (.mv 54 (.t 52)),
    .o (.mv 9 (.t 54)),
    .o (.mv 55 (.t 8)),
    .o (.mv 56 (.t 9)),
    .o (.ia 57 57 (.t 4) (.t 56)),
    .o (.ld 58 22 (.t 57)),
    .o (.cv 59 22 83 (.t 58)),
    .o (.call 60 (.f 113) [(.t 59), (.c (.i 4))]),
    .o (.bsl 61 23 2 [(0, (.t 55)), (1, (.t 60))]),
    .o (.call 62 (.f 32) [(.t 61)]),
    .o (.mv 8 (.t 62))],
   .o (.bin 63 .add 3 (.t 52) (.c (.i 1))),
   .o (.mv 52 (.t 63))]],
 .o (.mv 64 (.t 8)),
 .o (.mv 2 (.t 64)),
 .ret]
theorem cc106 : Tryd.f106.body.map cc = some c106 := by kernel_rfl
theorem rs106 : Tryd.f106.results.toList.map cRS = [.t 2] := by kernel_rfl
-- FN 187 livery/liveryref02.Start ntmps 2 params #[]
def c187 : List C := [.o (.al 0 57),
 .o (.bld 1 57 [(0, (.c (.u32 1779033703))), (1, (.c (.u32 3144134277))), (2, (.c (.u32 1013904242))), (3, (.c (.u32 2773480762))), (4, (.c (.u32 1359893119))), (5, (.c (.u32 2600822924))), (6, (.c (.u32 528734635))), (7, (.c (.u32 1541459225)))]),
 .o (.st 57 (.t 0) (.t 1)),
 .ret]
theorem cc187 : Tryd.f187.body.map cc = some c187 := by kernel_rfl
theorem rs187 : Tryd.f187.results.toList.map cRS = [.c 0 57] := by kernel_rfl
-- FN 188 livery/liveryref02.Compress ntmps 164 params #[57, 222]
def c188 : List C := [.o (.bx 2 57 (.t 0)),
 .o (.bx 3 222 (.t 1)),
 .o (.al 4 57),
 .o (.call 19 (.f 227) []),
 .o (.al 5 265),
 .o (.st 265 (.t 5) (.t 19)),
 .o (.al 6 265),
 .o (.mv 20 (.c (.i 0))),
 .blk 0 [.lp [.o (.bin 21 .lss 3 (.t 20) (.c (.i 64))),
   .ite (.t 21) []
    [.ex 0],
   .blk 1 [.o (.mv 22 (.t 20)),
    .o (.mv 7 (.t 22)),
    .o (.mv 23 (.t 7)),
    .o (.bin 24 .lss 3 (.t 23) (.c (.i 16))),
    .ite (.t 24) [.o (.mv 25 (.t 7)),
     .o (.ld 26 222 (.t 3)),
     .o (.mv 27 (.t 7)),
     .o (.call 28 (.f 228) [(.t 26), (.t 27)]),
     .o (.ia 29 265 (.t 6) (.t 25)),
     .o (.st 22 (.t 29) (.t 28)),
     .ex 1]
     [],
    .dr true 9 [.mv 30 (.t 7), .bin 31 .sub 3 (.t 30) (.c (.i 15)), .ia 32 265 (.t 6) (.t 31), .ld 33 22 (.t 32), .mv 34 (.t 7), .bin 35 .sub 3 (.t 34) (.c (.i 2)), .ia 36 265 (.t 6) (.t 35), .ld 37 22 (.t 36), .mv 8 (.t 33), .mv 9 (.t 37)],
    .dr true 28 [.mv 38 (.t 7), .mv 39 (.t 9), .call 40 (.f 229) [(.t 39), (.c (.u64 17))], .mv 41 (.t 9), .call 42 (.f 229) [(.t 41), (.c (.u64 19))], .bin 43 .xor 22 (.t 40) (.t 42), .mv 44 (.t 9), .bin 45 .shr 22 (.t 44) (.c (.u64 10)), .bin 46 .xor 22 (.t 43) (.t 45), .mv 47 (.t 7), .bin 48 .sub 3 (.t 47) (.c (.i 7)), .ia 49 265 (.t 6) (.t 48), .ld 50 22 (.t 49), .bin 51 .add 22 (.t 46) (.t 50), .mv 52 (.t 8), .call 53 (.f 229) [(.t 52), (.c (.u64 7))], .mv 54 (.t 8), .call 55 (.f 229) [(.t 54), (.c (.u64 18))], .bin 56 .xor 22 (.t 53) (.t 55), .mv 57 (.t 8), .bin 58 .shr 22 (.t 57) (.c (.u64 3)), .bin 59 .xor 22 (.t 56) (.t 58), .bin 60 .add 22 (.t 51) (.t 59), .mv 61 (.t 7), .bin 62 .sub 3 (.t 61) (.c (.i 16)), .ia 63 265 (.t 6) (.t 62), .ld 64 22 (.t 63), .bin 65 .add 22 (.t 60) (.t 64), .ia 66 265 (.t 6) (.t 38), .st 22 (.t 66) (.t 65)]],
   .o (.bin 67 .add 3 (.t 20) (.c (.i 1))),
   .o (.mv 20 (.t 67))]],
 .o (.ld 68 57 (.t 2)),
 .o (.al 10 57),
 .o (.st 57 (.t 10) (.t 68)),
 .o (.mv 69 (.c (.i 0))),
 .blk 2 [.lp [.o (.bin 70 .lss 3 (.t 69) (.c (.i 64))),
   .ite (.t 70) []
    [.ex 2],
   .blk 3 [.o (.mv 71 (.t 69)),
    .o (.mv 11 (.t 71)),
    .dr true 5 [.ia 72 57 (.t 10) (.c (.i 0)), .ld 73 22 (.t 72), .ia 74 57 (.t 10) (.c (.i 4)), .ld 75 22 (.t 74), .mv 12 (.t 73), .mv 13 (.t 75)],
    .o (.mv 76 (.t 13)),
    .o (.ia 77 57 (.t 10) (.c (.i 5))),
    .o (.ld 78 22 (.t 77)),
    .o (.bin 79 .and 22 (.t 76) (.t 78)),
    .o (.mv 80 (.t 13)),
    .o (.un 81 .xor (.t 80)),
    .o (.ia 82 57 (.t 10) (.c (.i 6))),
    .o (.ld 83 22 (.t 82)),
    .o (.bin 84 .and 22 (.t 81) (.t 83)),
    .o (.bin 85 .or 22 (.t 79) (.t 84)),
    .o (.mv 14 (.t 85)),
    .o (.mv 86 (.t 12)),
    .o (.ia 87 57 (.t 10) (.c (.i 1))),
    .o (.ld 88 22 (.t 87)),
    .o (.bin 89 .and 22 (.t 86) (.t 88)),
    .o (.mv 90 (.t 12)),
    .o (.ia 91 57 (.t 10) (.c (.i 2))),
    .o (.ld 92 22 (.t 91)),
    .o (.bin 93 .and 22 (.t 90) (.t 92)),
    .o (.bin 94 .or 22 (.t 89) (.t 93)),
    .o (.ia 95 57 (.t 10) (.c (.i 1))),
    .o (.ld 96 22 (.t 95)),
    .o (.ia 97 57 (.t 10) (.c (.i 2))),
    .o (.ld 98 22 (.t 97)),
    .o (.bin 99 .and 22 (.t 96) (.t 98)),
    .o (.bin 100 .or 22 (.t 94) (.t 99)),
    .o (.mv 15 (.t 100)),
    .dr true 20 [.ia 101 57 (.t 10) (.c (.i 7)), .ld 102 22 (.t 101), .mv 103 (.t 13), .call 104 (.f 229) [(.t 103), (.c (.u64 6))], .mv 105 (.t 13), .call 106 (.f 229) [(.t 105), (.c (.u64 11))], .bin 107 .xor 22 (.t 104) (.t 106), .mv 108 (.t 13), .call 109 (.f 229) [(.t 108), (.c (.u64 25))], .bin 110 .xor 22 (.t 107) (.t 109), .bin 111 .add 22 (.t 102) (.t 110), .mv 112 (.t 14), .bin 113 .add 22 (.t 111) (.t 112), .mv 114 (.t 11), .ia 115 265 (.t 5) (.t 114), .ld 116 22 (.t 115), .bin 117 .add 22 (.t 113) (.t 116), .mv 118 (.t 11), .ia 119 265 (.t 6) (.t 118), .ld 120 22 (.t 119), .bin 121 .add 22 (.t 117) (.t 120), .mv 16 (.t 121)],
    .o (.mv 122 (.t 12)),
    .o (.call 123 (.f 229) [(.t 122), (.c (.u64 2))]),
    .o (.mv 124 (.t 12)),
    .o (.call 125 (.f 229) [(.t 124), (.c (.u64 13))]),
    .o (.bin 126 .xor 22 (.t 123) (.t 125)),
    .o (.mv 127 (.t 12)),
    .o (.call 128 (.f 229) [(.t 127), (.c (.u64 22))]),
    .o (.bin 129 .xor 22 (.t 126) (.t 128)),
    .o (.mv 130 (.t 15)),
    .o (.bin 131 .add 22 (.t 129) (.t 130)),
    .o (.mv 17 (.t 131)),
    .o (.mv 132 (.t 16)),
    .o (.mv 133 (.t 17)),
    .o (.bin 134 .add 22 (.t 132) (.t 133)),
    .o (.mv 135 (.t 12)),
    .o (.ia 136 57 (.t 10) (.c (.i 1))),
    .o (.ld 137 22 (.t 136)),
    .o (.ia 138 57 (.t 10) (.c (.i 2))),
    .o (.ld 139 22 (.t 138)),
    .o (.ia 140 57 (.t 10) (.c (.i 3))),
    .o (.ld 141 22 (.t 140)),
    .o (.mv 142 (.t 16)),
    .o (.bin 143 .add 22 (.t 141) (.t 142)),
    .o (.mv 144 (.t 13)),
    .o (.ia 145 57 (.t 10) (.c (.i 5))),
    .o (.ld 146 22 (.t 145)),
    .o (.ia 147 57 (.t 10) (.c (.i 6))),
    .o (.ld 148 22 (.t 147)),
    .o (.bld 149 57 [(0, (.t 134)), (1, (.t 135)), (2, (.t 137)), (3, (.t 139)), (4, (.t 143)), (5, (.t 144)), (6, (.t 146)), (7, (.t 148))]),
    .o (.st 57 (.t 10) (.t 149))],
   .o (.bin 150 .add 3 (.t 69) (.c (.i 1))),
   .o (.mv 69 (.t 150))]],
 .o (.mv 151 (.c (.i 0))),
 .blk 4 [.lp [.o (.bin 152 .lss 3 (.t 151) (.c (.i 8))),
   .ite (.t 152) []
    [.ex 4],
   .blk 5 [.o (.mv 153 (.t 151)),
    .o (.mv 18 (.t 153)),
    .dr true 6 [.mv 154 (.t 18), .ia 155 57 (.t 10) (.t 154), .ld 156 22 (.t 155), .mv 157 (.t 18), .ia 158 57 (.t 2) (.t 157), .ld 159 22 (.t 158), .bin 160 .add 22 (.t 156) (.t 159), .ia 161 57 (.t 10) (.t 154), .st 22 (.t 161) (.t 160)]],
   .o (.bin 162 .add 3 (.t 151) (.c (.i 1))),
   .o (.mv 151 (.t 162))]],
 .o (.ld 163 57 (.t 10)),
 .o (.st 57 (.t 4) (.t 163)),
 .ret]
theorem cc188 : Tryd.f188.body.map cc = some c188 := by kernel_rfl
theorem rs188 : Tryd.f188.results.toList.map cRS = [.c 4 57] := by kernel_rfl
-- FN 227 livery/liveryref02.constants ntmps 2 params #[]
def c227 : List C := [.o (.al 0 265),
 .o (.bld 1 265 [(0, (.c (.u32 1116352408))), (1, (.c (.u32 1899447441))), (2, (.c (.u32 3049323471))), (3, (.c (.u32 3921009573))), (4, (.c (.u32 961987163))), (5, (.c (.u32 1508970993))), (6, (.c (.u32 2453635748))), (7, (.c (.u32 2870763221))), (8, (.c (.u32 3624381080))), (9, (.c (.u32 310598401))), (10, (.c (.u32 607225278))), (11, (.c (.u32 1426881987))), (12, (.c (.u32 1925078388))), (13, (.c (.u32 2162078206))), (14, (.c (.u32 2614888103))), (15, (.c (.u32 3248222580))), (16, (.c (.u32 3835390401))), (17, (.c (.u32 4022224774))), (18, (.c (.u32 264347078))), (19, (.c (.u32 604807628))), (20, (.c (.u32 770255983))), (21, (.c (.u32 1249150122))), (22, (.c (.u32 1555081692))), (23, (.c (.u32 1996064986))), (24, (.c (.u32 2554220882))), (25, (.c (.u32 2821834349))), (26, (.c (.u32 2952996808))), (27, (.c (.u32 3210313671))), (28, (.c (.u32 3336571891))), (29, (.c (.u32 3584528711))), (30, (.c (.u32 113926993))), (31, (.c (.u32 338241895))), (32, (.c (.u32 666307205))), (33, (.c (.u32 773529912))), (34, (.c (.u32 1294757372))), (35, (.c (.u32 1396182291))), (36, (.c (.u32 1695183700))), (37, (.c (.u32 1986661051))), (38, (.c (.u32 2177026350))), (39, (.c (.u32 2456956037))), (40, (.c (.u32 2730485921))), (41, (.c (.u32 2820302411))), (42, (.c (.u32 3259730800))), (43, (.c (.u32 3345764771))), (44, (.c (.u32 3516065817))), (45, (.c (.u32 3600352804))), (46, (.c (.u32 4094571909))), (47, (.c (.u32 275423344))), (48, (.c (.u32 430227734))), (49, (.c (.u32 506948616))), (50, (.c (.u32 659060556))), (51, (.c (.u32 883997877))), (52, (.c (.u32 958139571))), (53, (.c (.u32 1322822218))), (54, (.c (.u32 1537002063))), (55, (.c (.u32 1747873779))), (56, (.c (.u32 1955562222))), (57, (.c (.u32 2024104815))), (58, (.c (.u32 2227730452))), (59, (.c (.u32 2361852424))), (60, (.c (.u32 2428436474))), (61, (.c (.u32 2756734187))), (62, (.c (.u32 3204031479))), (63, (.c (.u32 3329325298)))]),
 .o (.st 265 (.t 0) (.t 1)),
 .ret]
theorem cc227 : Tryd.f227.body.map cc = some c227 := by kernel_rfl
theorem rs227 : Tryd.f227.results.toList.map cRS = [.c 0 265] := by kernel_rfl
-- FN 228 livery/liveryref02.word ntmps 27 params #[222, 3]
def c228 : List C := [.o (.bx 2 222 (.t 0)),
 .o (.mv 4 (.c (.u32 0))),
 .dr true 19 [.mv 5 (.t 1), .bin 6 .mul 3 (.c (.i 4)) (.t 5), .ia 7 222 (.t 2) (.t 6), .ld 8 5 (.t 7), .mv 9 (.t 1), .bin 10 .mul 3 (.c (.i 4)) (.t 9), .bin 11 .add 3 (.t 10) (.c (.i 1)), .ia 12 222 (.t 2) (.t 11), .ld 13 5 (.t 12), .mv 14 (.t 1), .bin 15 .mul 3 (.c (.i 4)) (.t 14), .bin 16 .add 3 (.t 15) (.c (.i 2)), .ia 17 222 (.t 2) (.t 16), .ld 18 5 (.t 17), .mv 19 (.t 1), .bin 20 .mul 3 (.c (.i 4)) (.t 19), .bin 21 .add 3 (.t 20) (.c (.i 3)), .ia 22 222 (.t 2) (.t 21), .ld 23 5 (.t 22), .bsl 24 25 4 [(0, (.t 8)), (1, (.t 13)), (2, (.t 18)), (3, (.t 23))], .call 25 (.f 240) [(.t 24)], .cv 26 83 22 (.t 25), .mv 4 (.t 26)],
 .ret]
theorem cc228 : Tryd.f228.body.map cc = some c228 := by kernel_rfl
theorem rs228 : Tryd.f228.results.toList.map cRS = [.t 4] := by kernel_rfl
-- FN 229 livery/liveryref02.rot ntmps 13 params #[22, 235]
def c229 : List C := [.o (.mv 4 (.c (.u32 0))),
 .o (.mv 5 (.t 0)),
 .o (.mv 6 (.t 1)),
 .o (.bin 7 .shr 22 (.t 5) (.t 6)),
 .o (.mv 8 (.t 0)),
 .o (.mv 9 (.t 1)),
 .o (.bin 10 .sub 235 (.c (.u64 32)) (.t 9)),
 .o (.bin 11 .shl 22 (.t 8) (.t 10)),
 .o (.bin 12 .or 22 (.t 7) (.t 11)),
 .o (.mv 4 (.t 12)),
 .ret]
theorem cc229 : Tryd.f229.body.map cc = some c229 := by kernel_rfl
theorem rs229 : Tryd.f229.results.toList.map cRS = [.t 4] := by kernel_rfl
end Go.Lv

namespace Go.Lv
open Go Go.Proofs
set_option maxRecDepth 100000
-- FN 103 livery/keccak.Shake ntmps 34 params #[3, 3, 23]
def c103 : List C := [.o (.mv 6 (.c .nils)),
 .o (.mv 7 (.c (.i 0))),
 .o (.mv 9 (.t 0)),
 .o (.bin 10 .neq 3 (.t 9) (.c (.i 128))),
 .o (.mv 11 (.t 10)),
 .o (.gd 11 true (.mv 12 (.t 0))),
 .o (.gd 11 true (.bin 13 .neq 3 (.t 12) (.c (.i 256)))),
 .o (.pick 14 (.t 11) (.t 13) (.c (.b false))),
 .ite (.t 14) [.o (.mv 6 (.c .nils)),
  .o (.mv 7 (.c (.i 1))),
  .ret]
  [],
 .o (.mv 15 (.t 1)),
 .o (.call 16 (.f 179) [(.t 15)]),
 .o (.mv 8 (.t 16)),
 .o (.mv 17 (.t 8)),
 .o (.bin 18 .neq 40 (.t 17) (.c (.i 0))),
 .ite (.t 18) [.o (.mv 19 (.t 8)),
  .o (.mv 6 (.c .nils)),
  .o (.mv 7 (.t 19)),
  .ret]
  [],
 .o (.mv 20 (.t 0)),
 .o (.bin 21 .eql 3 (.t 20) (.c (.i 128))),
 .ite (.t 21) [.o (.mv 22 (.t 2)),
  .o (.call 23 (.f 180) [(.t 22)]),
  .o (.mv 24 (.t 1)),
  .o (.call 25 (.f 181) [(.t 23), (.t 24)]),
  .o (.ext 26 (.t 25) 0),
  .o (.ext 27 (.t 25) 1),
  .o (.mv 6 (.t 26)),
  .o (.mv 7 (.t 27)),
  .ret]
  [],
 .o (.mv 28 (.t 2)),
 .o (.call 29 (.f 182) [(.t 28)]),
 .o (.mv 30 (.t 1)),
 .o (.call 31 (.f 181) [(.t 29), (.t 30)]),
 .o (.ext 32 (.t 31) 0),
 .o (.ext 33 (.t 31) 1),
 .o (.mv 6 (.t 32)),
 .o (.mv 7 (.t 33)),
 .ret]
theorem cc103 : Tryd.f103.body.map cc = some c103 := by kernel_rfl
theorem rs103 : Tryd.f103.results.toList.map cRS = [.t 6, .t 7] := by kernel_rfl
-- FN 179 livery/keccak.may ntmps 9 params #[3]
def c179 : List C := [.o (.mv 2 (.c (.i 0))),
 .blk 0 [.o (.mv 4 (.t 0)),
  .o (.bin 5 .lss 3 (.t 4) (.c (.i 0))),
  .o (.mv 3 (.t 5)),
  .ite (.t 3) [.o (.mv 2 (.c (.i 1))),
   .ret]
   [.o (.mv 7 (.t 0)),
   .o (.bin 8 .gtr 3 (.t 7) (.c (.i 1048576))),
   .o (.mv 6 (.t 8)),
   .ite (.t 6) [.o (.mv 2 (.c (.i 3))),
    .ret]
    []]],
 .o (.mv 2 (.c (.i 0))),
 .ret]
theorem cc179 : Tryd.f179.body.map cc = some c179 := by kernel_rfl
theorem rs179 : Tryd.f179.results.toList.map cRS = [.t 2] := by kernel_rfl
-- FN 180 livery/keccak.Shake128 ntmps 5 params #[23]
def c180 : List C := [.o (.mv 2 (.c .nilp)),
 .o (.mv 3 (.t 0)),
 .o (.call 4 (.f 219) [(.c (.i 168)), (.t 3)]),
 .o (.mv 2 (.t 4)),
 .ret]
theorem cc180 : Tryd.f180.body.map cc = some c180 := by kernel_rfl
theorem rs180 : Tryd.f180.results.toList.map cRS = [.t 2] := by kernel_rfl
-- FN 181 (*livery/keccak.Xof).Read ntmps 31 params #[213, 3]
def c181 : List C := [.o (.mv 4 (.c .nils)),
 .o (.mv 5 (.c (.i 0))),
 .o (.mv 8 (.t 0)),
 .o (.call 9 (.f 220) [(.t 8)]),
 .ite (.t 9) [.o (.mv 4 (.c .nils)),
  .o (.mv 5 (.c (.i 2))),
  .ret]
  [],
 .o (.mv 10 (.t 1)),
 .o (.call 11 (.f 179) [(.t 10)]),
 .o (.mv 6 (.t 11)),
 .o (.mv 12 (.t 6)),
 .o (.bin 13 .neq 40 (.t 12) (.c (.i 0))),
 .ite (.t 13) [.o (.mv 14 (.t 6)),
  .o (.mv 4 (.c .nils)),
  .o (.mv 5 (.t 14)),
  .ret]
  [],
 .o (.mv 15 (.t 1)),
 .o (.msl 16 25 (.t 15) (.t 15)),
 .o (.mv 7 (.t 16)),
 .o (.mv 17 (.t 0)),
 .o (.nc 18 (.t 17)),
 .o (.fa 19 258 (.t 18) 1),
 .o (.mv 20 (.t 7)),
 .o (.call 21 (.f 221) [(.t 19), (.t 20)]),
 .o (.mv 22 (.t 0)),
 .o (.nc 23 (.t 22)),
 .o (.fa 24 258 (.t 23) 2),
 .o (.ld 25 3 (.t 24)),
 .o (.mv 26 (.t 1)),
 .o (.bin 27 .add 3 (.t 25) (.t 26)),
 .o (.nc 28 (.t 22)),
 .o (.fa 29 258 (.t 28) 2),
 .o (.st 3 (.t 29) (.t 27)),
 .o (.mv 30 (.t 7)),
 .o (.mv 4 (.t 30)),
 .o (.mv 5 (.c (.i 0))),
 .ret]
theorem cc181 : Tryd.f181.body.map cc = some c181 := by kernel_rfl
theorem rs181 : Tryd.f181.results.toList.map cRS = [.t 4, .t 5] := by kernel_rfl
-- FN 182 livery/keccak.Shake256 ntmps 5 params #[23]
def c182 : List C := [.o (.mv 2 (.c .nilp)),
 .o (.mv 3 (.t 0)),
 .o (.call 4 (.f 219) [(.c (.i 136)), (.t 3)]),
 .o (.mv 2 (.t 4)),
 .ret]
theorem cc182 : Tryd.f182.body.map cc = some c182 := by kernel_rfl
theorem rs182 : Tryd.f182.results.toList.map cRS = [.t 2] := by kernel_rfl
-- FN 219 livery/keccak.started ntmps 16 params #[3, 23]
def c219 : List C := [.o (.mv 4 (.c .nilp)),
 .o (.mv 6 (.t 0)),
 .o (.bld 7 256 [(1, (.t 6))]),
 .o (.bld 8 258 [(0, (.c (.b true))), (1, (.t 7))]),
 .o (.bx 9 258 (.t 8)),
 .o (.mv 5 (.t 9)),
 .o (.mv 10 (.t 5)),
 .o (.nc 11 (.t 10)),
 .o (.fa 12 258 (.t 11) 1),
 .o (.mv 13 (.t 1)),
 .o (.call 14 (.f 235) [(.t 12), (.c (.u8 31)), (.t 13)]),
 .o (.mv 15 (.t 5)),
 .o (.mv 4 (.t 15)),
 .ret]
theorem cc219 : Tryd.f219.body.map cc = some c219 := by kernel_rfl
theorem rs219 : Tryd.f219.results.toList.map cRS = [.t 4] := by kernel_rfl
-- FN 220 (*livery/keccak.Xof).none ntmps 12 params #[213]
def c220 : List C := [.o (.mv 2 (.c (.b false))),
 .o (.mv 3 (.t 0)),
 .o (.bin 4 .eql 213 (.t 3) (.c .nilp)),
 .o (.mv 5 (.t 4)),
 .o (.gd 5 false (.mv 6 (.t 0))),
 .o (.gd 5 false (.nc 7 (.t 6))),
 .o (.gd 5 false (.fa 8 258 (.t 7) 0)),
 .o (.gd 5 false (.ld 9 4 (.t 8))),
 .o (.gd 5 false (.un 10 .not (.t 9))),
 .o (.pick 11 (.t 5) (.c (.b true)) (.t 10)),
 .o (.mv 2 (.t 11)),
 .ret]
theorem cc220 : Tryd.f220.body.map cc = some c220 := by kernel_rfl
theorem rs220 : Tryd.f220.results.toList.map cRS = [.t 2] := by kernel_rfl
-- FN 221 (*livery/keccak.sponge).gives ntmps 59 params #[272, 25]
def c221 : List C := [.o (.mv 5 (.t 1)),
 .o (.len 6 25 (.t 5)),
 .o (.mv 7 (.c (.i 0))),
 .blk 0 [.lp [.o (.bin 8 .lss 3 (.t 7) (.t 6)),
   .ite (.t 8) []
    [.ex 0],
   .blk 1 [.o (.mv 9 (.t 7)),
    .o (.mv 4 (.t 9)),
    .dr true 8 [.mv 10 (.t 0), .nc 11 (.t 10), .fa 12 256 (.t 11) 2, .ld 13 3 (.t 12), .mv 14 (.t 0), .nc 15 (.t 14), .fa 16 256 (.t 15) 1, .ld 17 3 (.t 16), .bin 18 .eql 3 (.t 13) (.t 17)],
    .ite (.t 18) [.o (.mv 19 (.t 0)),
     .o (.mv 20 (.t 0)),
     .o (.mv 21 (.t 0)),
     .o (.nc 22 (.t 21)),
     .o (.fa 23 256 (.t 22) 0),
     .o (.ld 24 254 (.t 23)),
     .o (.call 25 (.f 236) [(.t 24)]),
     .o (.nc 26 (.t 19)),
     .o (.fa 27 256 (.t 26) 0),
     .o (.st 254 (.t 27) (.t 25)),
     .o (.nc 28 (.t 20)),
     .o (.fa 29 256 (.t 28) 2),
     .o (.st 3 (.t 29) (.c (.i 0)))]
     [],
    .dr true 20 [.mv 30 (.t 1), .mv 31 (.t 4), .mv 32 (.t 0), .mv 33 (.t 0), .nc 34 (.t 33), .fa 35 256 (.t 34) 2, .ld 36 3 (.t 35), .bin 37 .quo 3 (.t 36) (.c (.i 8)), .nc 38 (.t 32), .fa 39 256 (.t 38) 0, .ia 40 254 (.t 39) (.t 37), .ld 41 83 (.t 40), .mv 42 (.t 0), .nc 43 (.t 42), .fa 44 256 (.t 43) 2, .ld 45 3 (.t 44), .bin 46 .rem 3 (.t 45) (.c (.i 8)), .bin 47 .mul 3 (.c (.i 8)) (.t 46), .bin 48 .shr 83 (.t 41) (.t 47), .cv 49 83 5 (.t 48), .ia 50 25 (.t 30) (.t 31), .st 5 (.t 50) (.t 49)],
    .o (.mv 51 (.t 0)),
    .o (.nc 52 (.t 51)),
    .o (.fa 53 256 (.t 52) 2),
    .o (.ld 54 3 (.t 53)),
    .o (.bin 55 .add 3 (.t 54) (.c (.i 1))),
    .o (.nc 56 (.t 51)),
    .o (.fa 57 256 (.t 56) 2),
    .o (.st 3 (.t 57) (.t 55))],
   .o (.bin 58 .add 3 (.t 7) (.c (.i 1))),
   .o (.mv 7 (.t 58))]]]
theorem cc221 : Tryd.f221.body.map cc = some c221 := by kernel_rfl
theorem rs221 : Tryd.f221.results.toList.map cRS = [] := by kernel_rfl
-- FN 235 (*livery/keccak.sponge).takes ntmps 78 params #[272, 5, 23]
def c235 : List C := [.o (.mv 10 (.t 2)),
 .o (.len 11 23 (.t 10)),
 .o (.mv 12 (.c (.i 0))),
 .blk 0 [.lp [.o (.bin 13 .lss 3 (.t 12) (.t 11)),
   .ite (.t 13) []
    [.ex 0],
   .blk 1 [.o (.ia 14 23 (.t 10) (.t 12)),
    .o (.ld 15 25 (.t 14)),
    .o (.mv 7 (.t 15)),
    .o (.mv 16 (.t 7)),
    .o (.len 17 25 (.t 16)),
    .o (.mv 18 (.c (.i 0))),
    .blk 2 [.lp [.o (.bin 19 .lss 3 (.t 18) (.t 17)),
      .ite (.t 19) []
       [.ex 2],
      .blk 3 [.o (.ia 20 25 (.t 16) (.t 18)),
       .o (.ld 21 5 (.t 20)),
       .o (.mv 9 (.t 21)),
       .o (.mv 22 (.t 0)),
       .o (.mv 23 (.t 9)),
       .o (.call 24 (.f 241) [(.t 22), (.t 23)]),
       .o (.mv 25 (.t 0)),
       .o (.nc 26 (.t 25)),
       .o (.fa 27 256 (.t 26) 2),
       .o (.ld 28 3 (.t 27)),
       .o (.bin 29 .add 3 (.t 28) (.c (.i 1))),
       .o (.nc 30 (.t 25)),
       .o (.fa 31 256 (.t 30) 2),
       .o (.st 3 (.t 31) (.t 29)),
       .dr true 8 [.mv 32 (.t 0), .nc 33 (.t 32), .fa 34 256 (.t 33) 2, .ld 35 3 (.t 34), .mv 36 (.t 0), .nc 37 (.t 36), .fa 38 256 (.t 37) 1, .ld 39 3 (.t 38), .bin 40 .eql 3 (.t 35) (.t 39)],
       .ite (.t 40) [.o (.mv 41 (.t 0)),
        .o (.mv 42 (.t 0)),
        .o (.mv 43 (.t 0)),
        .o (.nc 44 (.t 43)),
        .o (.fa 45 256 (.t 44) 0),
        .o (.ld 46 254 (.t 45)),
        .o (.call 47 (.f 236) [(.t 46)]),
        .o (.nc 48 (.t 41)),
        .o (.fa 49 256 (.t 48) 0),
        .o (.st 254 (.t 49) (.t 47)),
        .o (.nc 50 (.t 42)),
        .o (.fa 51 256 (.t 50) 2),
        .o (.st 3 (.t 51) (.c (.i 0)))]
        []],
      .o (.bin 52 .add 3 (.t 18) (.c (.i 1))),
      .o (.mv 18 (.t 52))]]],
   .o (.bin 53 .add 3 (.t 12) (.c (.i 1))),
   .o (.mv 12 (.t 53))]],
 .o (.mv 54 (.t 0)),
 .o (.mv 55 (.t 1)),
 .o (.call 56 (.f 241) [(.t 54), (.t 55)]),
 .o (.mv 57 (.t 0)),
 .o (.mv 58 (.t 0)),
 .o (.nc 59 (.t 58)),
 .o (.fa 60 256 (.t 59) 1),
 .o (.ld 61 3 (.t 60)),
 .o (.bin 62 .sub 3 (.t 61) (.c (.i 1))),
 .o (.nc 63 (.t 57)),
 .o (.fa 64 256 (.t 63) 2),
 .o (.st 3 (.t 64) (.t 62)),
 .o (.mv 65 (.t 0)),
 .o (.call 66 (.f 241) [(.t 65), (.c (.u8 128))]),
 .o (.mv 67 (.t 0)),
 .o (.mv 68 (.t 0)),
 .o (.mv 69 (.t 0)),
 .o (.nc 70 (.t 69)),
 .o (.fa 71 256 (.t 70) 0),
 .o (.ld 72 254 (.t 71)),
 .o (.call 73 (.f 236) [(.t 72)]),
 .o (.nc 74 (.t 67)),
 .o (.fa 75 256 (.t 74) 0),
 .o (.st 254 (.t 75) (.t 73)),
 .o (.nc 76 (.t 68)),
 .o (.fa 77 256 (.t 76) 2),
 .o (.st 3 (.t 77) (.c (.i 0)))]
theorem cc235 : Tryd.f235.body.map cc = some c235 := by kernel_rfl
theorem rs235 : Tryd.f235.results.toList.map cRS = [] := by kernel_rfl
-- FN 236 livery/keccak.Permute ntmps 20 params #[254]
def c236 : List C := [.o (.bx 1 254 (.t 0)),
 .o (.al 2 254),
 .o (.call 6 (.f 242) []),
 .o (.al 3 278),
 .o (.st 278 (.t 3) (.t 6)),
 .o (.call 7 (.f 243) []),
 .o (.mv 8 (.c (.i 0))),
 .blk 0 [.lp [.o (.bin 9 .lss 3 (.t 8) (.c (.i 24))),
   .ite (.t 9) []
    [.ex 0],
   .blk 1 [.o (.ixv 10 273 (.t 7) (.t 8)),
    .o (.mv 5 (.t 10)),
    .o (.ld 11 254 (.t 1)),
    .o (.call 12 (.f 244) [(.t 11), (.t 3)]),
    .o (.st 254 (.t 1) (.t 12)),
    .o (.ia 13 254 (.t 1) (.c (.i 0))),
    .o (.ld 14 83 (.t 13)),
    .o (.mv 15 (.t 5)),
    .o (.bin 16 .xor 83 (.t 14) (.t 15)),
    .o (.ia 17 254 (.t 1) (.c (.i 0))),
    .o (.st 83 (.t 17) (.t 16))],
   .o (.bin 18 .add 3 (.t 8) (.c (.i 1))),
   .o (.mv 8 (.t 18))]],
 .o (.ld 19 254 (.t 1)),
 .o (.st 254 (.t 2) (.t 19)),
 .ret]
theorem cc236 : Tryd.f236.body.map cc = some c236 := by kernel_rfl
theorem rs236 : Tryd.f236.results.toList.map cRS = [.c 2 254] := by kernel_rfl
-- FN 241 (*livery/keccak.sponge).put ntmps 27 params #[272, 5]
def c241 : List C := [.dr true 22 [.mv 4 (.t 0), .mv 5 (.t 0), .nc 6 (.t 5), .fa 7 256 (.t 6) 2, .ld 8 3 (.t 7), .bin 9 .quo 3 (.t 8) (.c (.i 8)), .nc 10 (.t 4), .fa 11 256 (.t 10) 0, .ia 12 254 (.t 11) (.t 9), .ld 13 83 (.t 12), .mv 14 (.t 1), .cv 15 5 83 (.t 14), .mv 16 (.t 0), .nc 17 (.t 16), .fa 18 256 (.t 17) 2, .ld 19 3 (.t 18), .bin 20 .rem 3 (.t 19) (.c (.i 8)), .bin 21 .mul 3 (.c (.i 8)) (.t 20), .bin 22 .shl 83 (.t 15) (.t 21), .bin 23 .xor 83 (.t 13) (.t 22), .nc 24 (.t 4), .fa 25 256 (.t 24) 0, .ia 26 254 (.t 25) (.t 9), .st 83 (.t 26) (.t 23)]]
theorem cc241 : Tryd.f241.body.map cc = some c241 := by kernel_rfl
theorem rs241 : Tryd.f241.results.toList.map cRS = [] := by kernel_rfl
-- FN 242 livery/keccak.offsets ntmps 2 params #[]
def c242 : List C := [.o (.al 0 278),
 .o (.bld 1 278 [(0, (.c (.i 0))), (1, (.c (.i 1))), (2, (.c (.i 62))), (3, (.c (.i 28))), (4, (.c (.i 27))), (5, (.c (.i 36))), (6, (.c (.i 44))), (7, (.c (.i 6))), (8, (.c (.i 55))), (9, (.c (.i 20))), (10, (.c (.i 3))), (11, (.c (.i 10))), (12, (.c (.i 43))), (13, (.c (.i 25))), (14, (.c (.i 39))), (15, (.c (.i 41))), (16, (.c (.i 45))), (17, (.c (.i 15))), (18, (.c (.i 21))), (19, (.c (.i 8))), (20, (.c (.i 18))), (21, (.c (.i 2))), (22, (.c (.i 61))), (23, (.c (.i 56))), (24, (.c (.i 14)))]),
 .o (.st 278 (.t 0) (.t 1)),
 .ret]
theorem cc242 : Tryd.f242.body.map cc = some c242 := by kernel_rfl
theorem rs242 : Tryd.f242.results.toList.map cRS = [.c 0 278] := by kernel_rfl
-- FN 243 livery/keccak.constants ntmps 2 params #[]
def c243 : List C := [.o (.al 0 273),
 .o (.bld 1 273 [(0, (.c (.u64 1))), (1, (.c (.u64 32898))), (2, (.c (.u64 9223372036854808714))), (3, (.c (.u64 9223372039002292224))), (4, (.c (.u64 32907))), (5, (.c (.u64 2147483649))), (6, (.c (.u64 9223372039002292353))), (7, (.c (.u64 9223372036854808585))), (8, (.c (.u64 138))), (9, (.c (.u64 136))), (10, (.c (.u64 2147516425))), (11, (.c (.u64 2147483658))), (12, (.c (.u64 2147516555))), (13, (.c (.u64 9223372036854775947))), (14, (.c (.u64 9223372036854808713))), (15, (.c (.u64 9223372036854808579))), (16, (.c (.u64 9223372036854808578))), (17, (.c (.u64 9223372036854775936))), (18, (.c (.u64 32778))), (19, (.c (.u64 9223372039002259466))), (20, (.c (.u64 9223372039002292353))), (21, (.c (.u64 9223372036854808704))), (22, (.c (.u64 2147483649))), (23, (.c (.u64 9223372039002292232)))]),
 .o (.st 273 (.t 0) (.t 1)),
 .ret]
theorem cc243 : Tryd.f243.body.map cc = some c243 := by kernel_rfl
theorem rs243 : Tryd.f243.results.toList.map cRS = [.c 0 273] := by kernel_rfl
-- FN 244 livery/keccak.mixed ntmps 123 params #[254, 281]
def c244 : List C := [.o (.bx 2 254 (.t 0)),
 .o (.al 4 254),
 .o (.al 5 284),
 .o (.al 6 284),
 .o (.mv 15 (.c (.i 0))),
 .blk 0 [.lp [.o (.bin 16 .lss 3 (.t 15) (.c (.i 5))),
   .ite (.t 16) []
    [.ex 0],
   .blk 1 [.o (.mv 17 (.t 15)),
    .o (.mv 7 (.t 17)),
    .dr true 24 [.mv 18 (.t 7), .mv 19 (.t 7), .ia 20 254 (.t 2) (.t 19), .ld 21 83 (.t 20), .mv 22 (.t 7), .bin 23 .add 3 (.t 22) (.c (.i 5)), .ia 24 254 (.t 2) (.t 23), .ld 25 83 (.t 24), .bin 26 .xor 83 (.t 21) (.t 25), .mv 27 (.t 7), .bin 28 .add 3 (.t 27) (.c (.i 10)), .ia 29 254 (.t 2) (.t 28), .ld 30 83 (.t 29), .bin 31 .xor 83 (.t 26) (.t 30), .mv 32 (.t 7), .bin 33 .add 3 (.t 32) (.c (.i 15)), .ia 34 254 (.t 2) (.t 33), .ld 35 83 (.t 34), .bin 36 .xor 83 (.t 31) (.t 35), .mv 37 (.t 7), .bin 38 .add 3 (.t 37) (.c (.i 20)), .ia 39 254 (.t 2) (.t 38), .ld 40 83 (.t 39), .bin 41 .xor 83 (.t 36) (.t 40), .ia 42 284 (.t 5) (.t 18), .st 83 (.t 42) (.t 41)]],
   .o (.bin 43 .add 3 (.t 15) (.c (.i 1))),
   .o (.mv 15 (.t 43))]],
 .o (.mv 44 (.c (.i 0))),
 .blk 2 [.lp [.o (.bin 45 .lss 3 (.t 44) (.c (.i 5))),
   .ite (.t 45) []
    [.ex 2],
   .blk 3 [.o (.mv 46 (.t 44)),
    .o (.mv 8 (.t 46)),
    .dr true 13 [.mv 47 (.t 8), .mv 48 (.t 8), .bin 49 .add 3 (.t 48) (.c (.i 4)), .bin 50 .rem 3 (.t 49) (.c (.i 5)), .ia 51 284 (.t 5) (.t 50), .ld 52 83 (.t 51), .mv 53 (.t 8), .bin 54 .add 3 (.t 53) (.c (.i 1)), .bin 55 .rem 3 (.t 54) (.c (.i 5)), .ia 56 284 (.t 5) (.t 55), .ld 57 83 (.t 56), .call 58 (.f 248) [(.t 57), (.c (.i 1))], .bin 59 .xor 83 (.t 52) (.t 58), .ia 60 284 (.t 6) (.t 47), .st 83 (.t 60) (.t 59)]],
   .o (.bin 61 .add 3 (.t 44) (.c (.i 1))),
   .o (.mv 44 (.t 61))]],
 .o (.al 9 254),
 .o (.mv 62 (.c (.i 0))),
 .blk 4 [.lp [.o (.bin 63 .lss 3 (.t 62) (.c (.i 25))),
   .ite (.t 63) []
    [.ex 4],
   .blk 5 [.o (.mv 64 (.t 62)),
    .o (.mv 10 (.t 64)),
    .o (.mv 65 (.t 10)),
    .o (.bin 66 .rem 3 (.t 65) (.c (.i 5))),
    .o (.mv 67 (.t 10)),
    .o (.bin 68 .quo 3 (.t 67) (.c (.i 5))),
    .o (.mv 11 (.t 66)),
    .o (.mv 12 (.t 68)),
    .dr true 22 [.mv 69 (.t 11), .bin 70 .mul 3 (.c (.i 2)) (.t 69), .mv 71 (.t 12), .bin 72 .mul 3 (.c (.i 3)) (.t 71), .bin 73 .add 3 (.t 70) (.t 72), .bin 74 .rem 3 (.t 73) (.c (.i 5)), .bin 75 .mul 3 (.c (.i 5)) (.t 74), .mv 76 (.t 12), .bin 77 .add 3 (.t 75) (.t 76), .mv 78 (.t 10), .ia 79 254 (.t 2) (.t 78), .ld 80 83 (.t 79), .mv 81 (.t 11), .ia 82 284 (.t 6) (.t 81), .ld 83 83 (.t 82), .bin 84 .xor 83 (.t 80) (.t 83), .mv 85 (.t 1), .mv 86 (.t 10), .nc 87 (.t 85), .ia 88 278 (.t 87) (.t 86), .ld 89 3 (.t 88), .call 90 (.f 248) [(.t 84), (.t 89)], .ia 91 254 (.t 9) (.t 77), .st 83 (.t 91) (.t 90)]],
   .o (.bin 92 .add 3 (.t 62) (.c (.i 1))),
   .o (.mv 62 (.t 92))]],
 .o (.mv 93 (.c (.i 0))),
 .blk 6 [.lp [.o (.bin 94 .lss 3 (.t 93) (.c (.i 25))),
   .ite (.t 94) []
    [.ex 6],
   .blk 7 [.o (.mv 95 (.t 93)),
    .o (.mv 13 (.t 95)),
    .o (.mv 96 (.t 13)),
    .o (.bin 97 .quo 3 (.t 96) (.c (.i 5))),
    .o (.bin 98 .mul 3 (.t 97) (.c (.i 5))),
    .o (.mv 14 (.t 98)),
    .dr true 21 [.mv 99 (.t 13), .mv 100 (.t 13), .ia 101 254 (.t 9) (.t 100), .ld 102 83 (.t 101), .mv 103 (.t 14), .mv 104 (.t 13), .bin 105 .add 3 (.t 104) (.c (.i 1)), .bin 106 .rem 3 (.t 105) (.c (.i 5)), .bin 107 .add 3 (.t 103) (.t 106), .ia 108 254 (.t 9) (.t 107), .ld 109 83 (.t 108), .un 110 .xor (.t 109), .mv 111 (.t 14), .mv 112 (.t 13), .bin 113 .add 3 (.t 112) (.c (.i 2)), .bin 114 .rem 3 (.t 113) (.c (.i 5)), .bin 115 .add 3 (.t 111) (.t 114), .ia 116 254 (.t 9) (.t 115), .ld 117 83 (.t 116), .bin 118 .and 83 (.t 110) (.t 117), .bin 119 .xor 83 (.t 102) (.t 118), .ia 120 254 (.t 2) (.t 99), .st 83 (.t 120) (.t 119)]],
   .o (.bin 121 .add 3 (.t 93) (.c (.i 1))),
   .o (.mv 93 (.t 121))]],
 .o (.ld 122 254 (.t 2)),
 .o (.st 254 (.t 4) (.t 122)),
 .ret]
theorem cc244 : Tryd.f244.body.map cc = some c244 := by kernel_rfl
theorem rs244 : Tryd.f244.results.toList.map cRS = [.c 4 254] := by kernel_rfl
end Go.Lv

namespace Go.Lv
open Go Go.Proofs
set_option maxRecDepth 100000
-- FN 105 livery/liveryref03.Shake ntmps 14 params #[3, 3, 25]
def c105 : List C := [.o (.mv 6 (.c .nils)),
 .o (.mv 7 (.c (.i 136))),
 .o (.mv 8 (.t 0)),
 .o (.bin 9 .eql 3 (.t 8) (.c (.i 128))),
 .ite (.t 9) [.o (.mv 7 (.c (.i 168)))]
  [],
 .o (.mv 10 (.t 7)),
 .o (.mv 11 (.t 2)),
 .o (.mv 12 (.t 1)),
 .o (.call 13 (.f 186) [(.t 10), (.c (.u8 31)), (.t 11), (.t 12)]),
 .o (.mv 6 (.t 13)),
 .ret]
theorem cc105 : Tryd.f105.body.map cc = some c105 := by kernel_rfl
theorem rs105 : Tryd.f105.results.toList.map cRS = [.t 6] := by kernel_rfl
-- FN 186 livery/liveryref03.Sponge ntmps 88 params #[3, 5, 25, 3]
def c186 : List C := [.o (.mv 8 (.c .nils)),
 .o (.mv 14 (.t 2)),
 .o (.mv 15 (.t 1)),
 .o (.bsl 16 25 1 [(0, (.t 15))]),
 .o (.bsl 17 23 2 [(0, (.t 14)), (1, (.t 16))]),
 .o (.call 18 (.f 32) [(.t 17)]),
 .o (.mv 9 (.t 18)),
 .blk 0 [.lp [.o (.mv 19 (.t 9)),
   .o (.len 20 25 (.t 19)),
   .o (.mv 21 (.t 0)),
   .o (.bin 22 .rem 3 (.t 20) (.t 21)),
   .o (.bin 23 .neq 3 (.t 22) (.c (.i 0))),
   .ite (.t 23) []
    [.ex 0],
   .blk 1 [.o (.mv 24 (.t 9)),
    .o (.bsl 25 25 1 [(0, (.c (.u8 0)))]),
    .o (.app 26 25 25 (.t 24) (.t 25)),
    .o (.mv 9 (.t 26))]]],
 .o (.mv 27 (.t 9)),
 .o (.mv 28 (.t 9)),
 .o (.len 29 25 (.t 28)),
 .o (.bin 30 .sub 3 (.t 29) (.c (.i 1))),
 .o (.ia 31 25 (.t 27) (.t 30)),
 .o (.ld 32 5 (.t 31)),
 .o (.bin 33 .xor 5 (.t 32) (.c (.u8 128))),
 .o (.ia 34 25 (.t 27) (.t 30)),
 .o (.st 5 (.t 34) (.t 33)),
 .o (.al 10 254),
 .o (.mv 11 (.c (.i 0))),
 .blk 2 [.lp [.o (.mv 35 (.t 11)),
   .o (.mv 36 (.t 9)),
   .o (.len 37 25 (.t 36)),
   .o (.bin 38 .lss 3 (.t 35) (.t 37)),
   .ite (.t 38) []
    [.ex 2],
   .blk 3 [.o (.mv 42 (.t 0)),
    .o (.mv 43 (.c (.i 0))),
    .blk 4 [.lp [.o (.bin 44 .lss 3 (.t 43) (.t 42)),
      .ite (.t 44) []
       [.ex 4],
      .blk 5 [.o (.mv 45 (.t 43)),
       .o (.mv 12 (.t 45)),
       .dr true 16 [.mv 46 (.t 12), .bin 47 .quo 3 (.t 46) (.c (.i 8)), .ia 48 254 (.t 10) (.t 47), .ld 49 83 (.t 48), .mv 50 (.t 9), .mv 51 (.t 11), .mv 52 (.t 12), .bin 53 .add 3 (.t 51) (.t 52), .ia 54 25 (.t 50) (.t 53), .ld 55 5 (.t 54), .cv 56 5 83 (.t 55), .mv 57 (.t 12), .bin 58 .rem 3 (.t 57) (.c (.i 8)), .bin 59 .mul 3 (.c (.i 8)) (.t 58), .cv 60 3 235 (.t 59), .bin 61 .shl 83 (.t 56) (.t 60), .bin 62 .xor 83 (.t 49) (.t 61), .ia 63 254 (.t 10) (.t 47), .st 83 (.t 63) (.t 62)]],
      .o (.bin 64 .add 3 (.t 43) (.c (.i 1))),
      .o (.mv 43 (.t 64))]],
    .o (.ld 65 254 (.t 10)),
    .o (.call 66 (.f 225) [(.t 65)]),
    .o (.st 254 (.t 10) (.t 66))],
   .o (.mv 39 (.t 11)),
   .o (.mv 40 (.t 0)),
   .o (.bin 41 .add 3 (.t 39) (.t 40)),
   .o (.mv 11 (.t 41))]],
 .o (.bsl 67 25 0 []),
 .o (.mv 13 (.t 67)),
 .blk 6 [.lp [.o (.mv 68 (.t 13)),
   .o (.len 69 25 (.t 68)),
   .o (.mv 70 (.t 3)),
   .o (.bin 71 .lss 3 (.t 69) (.t 70)),
   .ite (.t 71) []
    [.ex 6],
   .blk 7 [.o (.mv 72 (.t 13)),
    .o (.len 73 25 (.t 72)),
    .o (.bin 74 .gtr 3 (.t 73) (.c (.i 0))),
    .ite (.t 74) [.o (.ld 75 254 (.t 10)),
     .o (.call 76 (.f 225) [(.t 75)]),
     .o (.st 254 (.t 10) (.t 76))]
     [],
    .o (.mv 77 (.t 13)),
    .o (.ld 78 254 (.t 10)),
    .o (.mv 79 (.t 0)),
    .o (.mv 80 (.t 3)),
    .o (.mv 81 (.t 13)),
    .o (.len 82 25 (.t 81)),
    .o (.bin 83 .sub 3 (.t 80) (.t 82)),
    .o (.min 84 (.t 79) (.t 83)),
    .o (.call 85 (.f 226) [(.t 78), (.t 84)]),
    .o (.app 86 25 25 (.t 77) (.t 85)),
    .o (.mv 13 (.t 86))]]],
 .o (.mv 87 (.t 13)),
 .o (.mv 8 (.t 87)),
 .ret]
theorem cc186 : Tryd.f186.body.map cc = some c186 := by kernel_rfl
theorem rs186 : Tryd.f186.results.toList.map cRS = [.t 8] := by kernel_rfl
-- FN 225 livery/liveryref03.Permute ntmps 16 params #[254]
def c225 : List C := [.o (.bx 1 254 (.t 0)),
 .o (.al 2 254),
 .o (.call 5 (.f 238) []),
 .o (.al 3 273),
 .o (.st 273 (.t 3) (.t 5)),
 .o (.mv 6 (.c (.i 0))),
 .blk 0 [.lp [.o (.bin 7 .lss 3 (.t 6) (.c (.i 24))),
   .ite (.t 7) []
    [.ex 0],
   .blk 1 [.o (.mv 8 (.t 6)),
    .o (.mv 4 (.t 8)),
    .dr true 4 [.ld 9 254 (.t 1), .mv 10 (.t 4), .ia 11 273 (.t 3) (.t 10), .ld 12 83 (.t 11), .call 13 (.f 239) [(.t 9), (.t 12)], .st 254 (.t 1) (.t 13)]],
   .o (.bin 14 .add 3 (.t 6) (.c (.i 1))),
   .o (.mv 6 (.t 14))]],
 .o (.ld 15 254 (.t 1)),
 .o (.st 254 (.t 2) (.t 15)),
 .ret]
theorem cc225 : Tryd.f225.body.map cc = some c225 := by kernel_rfl
theorem rs225 : Tryd.f225.results.toList.map cRS = [.c 2 254] := by kernel_rfl
-- FN 226 livery/liveryref03.bytes ntmps 27 params #[254, 3]
def c226 : List C := [.o (.bx 2 254 (.t 0)),
 .o (.mv 4 (.c .nils)),
 .o (.bsl 7 25 0 []),
 .o (.mv 5 (.t 7)),
 .o (.mv 8 (.t 1)),
 .o (.mv 9 (.c (.i 0))),
 .blk 0 [.lp [.o (.bin 10 .lss 3 (.t 9) (.t 8)),
   .ite (.t 10) []
    [.ex 0],
   .blk 1 [.o (.mv 11 (.t 9)),
    .o (.mv 6 (.t 11)),
    .o (.mv 12 (.t 5)),
    .o (.mv 13 (.t 6)),
    .o (.bin 14 .quo 3 (.t 13) (.c (.i 8))),
    .o (.ia 15 254 (.t 2) (.t 14)),
    .o (.ld 16 83 (.t 15)),
    .o (.mv 17 (.t 6)),
    .o (.bin 18 .rem 3 (.t 17) (.c (.i 8))),
    .o (.bin 19 .mul 3 (.c (.i 8)) (.t 18)),
    .o (.cv 20 3 235 (.t 19)),
    .o (.bin 21 .shr 83 (.t 16) (.t 20)),
    .o (.cv 22 83 5 (.t 21)),
    .o (.bsl 23 25 1 [(0, (.t 22))]),
    .o (.app 24 25 25 (.t 12) (.t 23)),
    .o (.mv 5 (.t 24))],
   .o (.bin 25 .add 3 (.t 9) (.c (.i 1))),
   .o (.mv 9 (.t 25))]],
 .o (.mv 26 (.t 5)),
 .o (.mv 4 (.t 26)),
 .ret]
theorem cc226 : Tryd.f226.body.map cc = some c226 := by kernel_rfl
theorem rs226 : Tryd.f226.results.toList.map cRS = [.t 4] := by kernel_rfl
-- FN 238 livery/liveryref03.constants ntmps 2 params #[]
def c238 : List C := [.o (.al 0 273),
 .o (.bld 1 273 [(0, (.c (.u64 1))), (1, (.c (.u64 32898))), (2, (.c (.u64 9223372036854808714))), (3, (.c (.u64 9223372039002292224))), (4, (.c (.u64 32907))), (5, (.c (.u64 2147483649))), (6, (.c (.u64 9223372039002292353))), (7, (.c (.u64 9223372036854808585))), (8, (.c (.u64 138))), (9, (.c (.u64 136))), (10, (.c (.u64 2147516425))), (11, (.c (.u64 2147483658))), (12, (.c (.u64 2147516555))), (13, (.c (.u64 9223372036854775947))), (14, (.c (.u64 9223372036854808713))), (15, (.c (.u64 9223372036854808579))), (16, (.c (.u64 9223372036854808578))), (17, (.c (.u64 9223372036854775936))), (18, (.c (.u64 32778))), (19, (.c (.u64 9223372039002259466))), (20, (.c (.u64 9223372039002292353))), (21, (.c (.u64 9223372036854808704))), (22, (.c (.u64 2147483649))), (23, (.c (.u64 9223372039002292232)))]),
 .o (.st 273 (.t 0) (.t 1)),
 .ret]
theorem cc238 : Tryd.f238.body.map cc = some c238 := by kernel_rfl
theorem rs238 : Tryd.f238.results.toList.map cRS = [.c 0 273] := by kernel_rfl
-- FN 239 livery/liveryref03.round ntmps 120 params #[254, 83]
def c239 : List C := [.o (.bx 2 254 (.t 0)),
 .o (.al 4 254),
 .o (.al 5 284),
 .o (.mv 16 (.c (.i 0))),
 .blk 0 [.lp [.o (.bin 17 .lss 3 (.t 16) (.c (.i 25))),
   .ite (.t 17) []
    [.ex 0],
   .blk 1 [.o (.mv 18 (.t 16)),
    .o (.mv 6 (.t 18)),
    .dr true 7 [.mv 19 (.t 6), .bin 20 .rem 3 (.t 19) (.c (.i 5)), .ia 21 284 (.t 5) (.t 20), .ld 22 83 (.t 21), .mv 23 (.t 6), .ia 24 254 (.t 2) (.t 23), .ld 25 83 (.t 24), .bin 26 .xor 83 (.t 22) (.t 25), .ia 27 284 (.t 5) (.t 20), .st 83 (.t 27) (.t 26)]],
   .o (.bin 28 .add 3 (.t 16) (.c (.i 1))),
   .o (.mv 16 (.t 28))]],
 .o (.mv 29 (.c (.i 0))),
 .blk 2 [.lp [.o (.bin 30 .lss 3 (.t 29) (.c (.i 25))),
   .ite (.t 30) []
    [.ex 2],
   .blk 3 [.o (.mv 31 (.t 29)),
    .o (.mv 7 (.t 31)),
    .dr true 15 [.mv 32 (.t 7), .ia 33 254 (.t 2) (.t 32), .ld 34 83 (.t 33), .mv 35 (.t 7), .bin 36 .add 3 (.t 35) (.c (.i 4)), .bin 37 .rem 3 (.t 36) (.c (.i 5)), .ia 38 284 (.t 5) (.t 37), .ld 39 83 (.t 38), .mv 40 (.t 7), .bin 41 .add 3 (.t 40) (.c (.i 1)), .bin 42 .rem 3 (.t 41) (.c (.i 5)), .ia 43 284 (.t 5) (.t 42), .ld 44 83 (.t 43), .call 45 (.f 247) [(.t 44), (.c (.i 1))], .bin 46 .xor 83 (.t 39) (.t 45), .bin 47 .xor 83 (.t 34) (.t 46), .ia 48 254 (.t 2) (.t 32), .st 83 (.t 48) (.t 47)]],
   .o (.bin 49 .add 3 (.t 29) (.c (.i 1))),
   .o (.mv 29 (.t 49))]],
 .o (.al 8 254),
 .o (.ia 50 254 (.t 2) (.c (.i 0))),
 .o (.ld 51 83 (.t 50)),
 .o (.ia 52 254 (.t 8) (.c (.i 0))),
 .o (.st 83 (.t 52) (.t 51)),
 .o (.mv 9 (.c (.i 1))),
 .o (.mv 10 (.c (.i 0))),
 .o (.mv 53 (.c (.i 0))),
 .blk 4 [.lp [.o (.bin 54 .lss 3 (.t 53) (.c (.i 24))),
   .ite (.t 54) []
    [.ex 4],
   .blk 5 [.o (.mv 55 (.t 53)),
    .o (.mv 11 (.t 55)),
    .o (.mv 56 (.t 10)),
    .o (.mv 57 (.t 9)),
    .o (.bin 58 .mul 3 (.c (.i 2)) (.t 57)),
    .o (.mv 59 (.t 10)),
    .o (.bin 60 .mul 3 (.c (.i 3)) (.t 59)),
    .o (.bin 61 .add 3 (.t 58) (.t 60)),
    .o (.bin 62 .rem 3 (.t 61) (.c (.i 5))),
    .o (.mv 12 (.t 56)),
    .o (.mv 13 (.t 62)),
    .o (.mv 63 (.t 13)),
    .o (.bin 64 .mul 3 (.c (.i 5)) (.t 63)),
    .o (.mv 65 (.t 12)),
    .o (.bin 66 .add 3 (.t 64) (.t 65)),
    .o (.mv 67 (.t 10)),
    .o (.bin 68 .mul 3 (.c (.i 5)) (.t 67)),
    .o (.mv 69 (.t 9)),
    .o (.bin 70 .add 3 (.t 68) (.t 69)),
    .o (.ia 71 254 (.t 2) (.t 70)),
    .o (.ld 72 83 (.t 71)),
    .o (.mv 73 (.t 11)),
    .o (.bin 74 .add 3 (.t 73) (.c (.i 1))),
    .o (.mv 75 (.t 11)),
    .o (.bin 76 .add 3 (.t 75) (.c (.i 2))),
    .o (.bin 77 .mul 3 (.t 74) (.t 76)),
    .o (.bin 78 .quo 3 (.t 77) (.c (.i 2))),
    .o (.bin 79 .rem 3 (.t 78) (.c (.i 64))),
    .o (.call 80 (.f 247) [(.t 72), (.t 79)]),
    .o (.ia 81 254 (.t 8) (.t 66)),
    .o (.st 83 (.t 81) (.t 80)),
    .o (.mv 82 (.t 12)),
    .o (.mv 83 (.t 13)),
    .o (.mv 9 (.t 82)),
    .o (.mv 10 (.t 83))],
   .o (.bin 84 .add 3 (.t 53) (.c (.i 1))),
   .o (.mv 53 (.t 84))]],
 .o (.mv 85 (.c (.i 0))),
 .blk 6 [.lp [.o (.bin 86 .lss 3 (.t 85) (.c (.i 25))),
   .ite (.t 86) []
    [.ex 6],
   .blk 7 [.o (.mv 87 (.t 85)),
    .o (.mv 14 (.t 87)),
    .o (.mv 88 (.t 14)),
    .o (.bin 89 .quo 3 (.t 88) (.c (.i 5))),
    .o (.bin 90 .mul 3 (.t 89) (.c (.i 5))),
    .o (.mv 15 (.t 90)),
    .dr true 21 [.mv 91 (.t 14), .mv 92 (.t 14), .ia 93 254 (.t 8) (.t 92), .ld 94 83 (.t 93), .mv 95 (.t 15), .mv 96 (.t 14), .bin 97 .add 3 (.t 96) (.c (.i 1)), .bin 98 .rem 3 (.t 97) (.c (.i 5)), .bin 99 .add 3 (.t 95) (.t 98), .ia 100 254 (.t 8) (.t 99), .ld 101 83 (.t 100), .un 102 .xor (.t 101), .mv 103 (.t 15), .mv 104 (.t 14), .bin 105 .add 3 (.t 104) (.c (.i 2)), .bin 106 .rem 3 (.t 105) (.c (.i 5)), .bin 107 .add 3 (.t 103) (.t 106), .ia 108 254 (.t 8) (.t 107), .ld 109 83 (.t 108), .bin 110 .and 83 (.t 102) (.t 109), .bin 111 .xor 83 (.t 94) (.t 110), .ia 112 254 (.t 2) (.t 91), .st 83 (.t 112) (.t 111)]],
   .o (.bin 113 .add 3 (.t 85) (.c (.i 1))),
   .o (.mv 85 (.t 113))]],
 .o (.ia 114 254 (.t 2) (.c (.i 0))),
 .o (.ld 115 83 (.t 114)),
 .o (.mv 116 (.t 1)),
 .o (.bin 117 .xor 83 (.t 115) (.t 116)),
 .o (.ia 118 254 (.t 2) (.c (.i 0))),
 .o (.st 83 (.t 118) (.t 117)),
 .o (.ld 119 254 (.t 2)),
 .o (.st 254 (.t 4) (.t 119)),
 .ret]
theorem cc239 : Tryd.f239.body.map cc = some c239 := by kernel_rfl
theorem rs239 : Tryd.f239.results.toList.map cRS = [.c 4 254] := by kernel_rfl
-- FN 247 livery/liveryref03.turn ntmps 18 params #[83, 3]
def c247 : List C := [.o (.mv 4 (.c (.u64 0))),
 .o (.mv 5 (.t 1)),
 .o (.bin 6 .eql 3 (.t 5) (.c (.i 0))),
 .ite (.t 6) [.o (.mv 7 (.t 0)),
  .o (.mv 4 (.t 7)),
  .ret]
  [],
 .o (.mv 8 (.t 0)),
 .o (.mv 9 (.t 1)),
 .o (.cv 10 3 235 (.t 9)),
 .o (.bin 11 .shl 83 (.t 8) (.t 10)),
 .o (.mv 12 (.t 0)),
 .o (.mv 13 (.t 1)),
 .o (.bin 14 .sub 3 (.c (.i 64)) (.t 13)),
 .o (.cv 15 3 235 (.t 14)),
 .o (.bin 16 .shr 83 (.t 12) (.t 15)),
 .o (.bin 17 .or 83 (.t 11) (.t 16)),
 .o (.mv 4 (.t 17)),
 .ret]
theorem cc247 : Tryd.f247.body.map cc = some c247 := by kernel_rfl
theorem rs247 : Tryd.f247.results.toList.map cRS = [.t 4] := by kernel_rfl
end Go.Lv

