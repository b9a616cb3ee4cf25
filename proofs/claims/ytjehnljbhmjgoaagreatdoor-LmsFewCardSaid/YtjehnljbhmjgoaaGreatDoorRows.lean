/-
  NARROWER THAN 'FOR EVERY INPUT', by the rows' own cells (each row's printed sentence says how): XmssGrows: laid · HssPublics: laid · HssProves: laid · LmsSigns: laid · LmsVerifies: laid · LmsTrees: laid · HssSigns: laid · HssChild: laid · LmsGrows: laid · LmsFew: laid · LmsNodes: laid · LmsUp: laid · HssOwn: laid.
  DERIVED. THE GIVEN ROWS OF THIS SEAT. 13 by the template 'for every input the law returns true; each argument reads behind the call as it read before'; 0 by the template 'total and deterministic' (their statements: YtjehnljbhmjgoaaGreatDoorTotals.lean).
  GIVEN WITH THE SEED: the statements are not yours to turn. If you find one false, say at which input.
  Laid BY PROGRAM, IN A SANDBOX (cutbox-rows.mjs): the forced cells as the released guide's own fill.sh prints them over the translation 5543d1dac22dd0a3… (all of the seat's roots in one cut). By AI agents, Wed Nov 11 2026. No macro, syntax, notation, axiom, sorry.
-/
import Derived.Test.YtjehnljbhmjgoaaGreatDoorChecked
import GoSem.Claim
import GoSem.ClaimJoined
import GoSem.ClaimMapViews
import Derived.JoinedTies
import Derived.KernelRfl
namespace Go.Proofs.YtjehnljbhmjgoaaGreatDoor
/- THE CELL 'sum', in the pinned program and in every row, IS THE sha256 OF THE DUMP (.gsa) THAT YtjehnljbhmjgoaaGreatDoorProg.lean LOADS. Nothing in Lean hashes anything: it is a label: what it is worth is what the hold of that sum in a sandbox is worth. -/
noncomputable def Tryz.pinned : Pinned := { name := "ytjehnljbhmjgoaagreatdoor", sum := "5543d1dac22dd0a324c296ecab00213eeed2a7a391b1e5de981e1d80187a646f", checked := Tryz.checked }
namespace Rows
def none {H : Type} : Left H := { results := [], args := [] }

/- WHAT THE LISTED PACKAGE-LEVEL VARIABLES READ AS WHEN THE CALL BEGINS. Each datum BY PROGRAM (the guide's laid-datum.mjs) off the statement by which the dump's own 'gosem.cut.vars' lays the variable. In a bare row this is a premise. The card (YtjehnljbhmjgoaaGreatDoorCards.lean) ties it to the program's text. -/
def laid_livery_sha2_table {H : Type} : DataW H := .agg [.lit (.int .u32 1116352408), .lit (.int .u32 1899447441), .lit (.int .u32 3049323471), .lit (.int .u32 3921009573), .lit (.int .u32 961987163), .lit (.int .u32 1508970993), .lit (.int .u32 2453635748), .lit (.int .u32 2870763221), .lit (.int .u32 3624381080), .lit (.int .u32 310598401), .lit (.int .u32 607225278), .lit (.int .u32 1426881987), .lit (.int .u32 1925078388), .lit (.int .u32 2162078206), .lit (.int .u32 2614888103), .lit (.int .u32 3248222580), .lit (.int .u32 3835390401), .lit (.int .u32 4022224774), .lit (.int .u32 264347078), .lit (.int .u32 604807628), .lit (.int .u32 770255983), .lit (.int .u32 1249150122), .lit (.int .u32 1555081692), .lit (.int .u32 1996064986), .lit (.int .u32 2554220882), .lit (.int .u32 2821834349), .lit (.int .u32 2952996808), .lit (.int .u32 3210313671), .lit (.int .u32 3336571891), .lit (.int .u32 3584528711), .lit (.int .u32 113926993), .lit (.int .u32 338241895), .lit (.int .u32 666307205), .lit (.int .u32 773529912), .lit (.int .u32 1294757372), .lit (.int .u32 1396182291), .lit (.int .u32 1695183700), .lit (.int .u32 1986661051), .lit (.int .u32 2177026350), .lit (.int .u32 2456956037), .lit (.int .u32 2730485921), .lit (.int .u32 2820302411), .lit (.int .u32 3259730800), .lit (.int .u32 3345764771), .lit (.int .u32 3516065817), .lit (.int .u32 3600352804), .lit (.int .u32 4094571909), .lit (.int .u32 275423344), .lit (.int .u32 430227734), .lit (.int .u32 506948616), .lit (.int .u32 659060556), .lit (.int .u32 883997877), .lit (.int .u32 958139571), .lit (.int .u32 1322822218), .lit (.int .u32 1537002063), .lit (.int .u32 1747873779), .lit (.int .u32 1955562222), .lit (.int .u32 2024104815), .lit (.int .u32 2227730452), .lit (.int .u32 2361852424), .lit (.int .u32 2428436474), .lit (.int .u32 2756734187), .lit (.int .u32 3204031479), .lit (.int .u32 3329325298)]
def laid_livery_sha2_start {H : Type} : DataW H := .agg [.lit (.int .u32 1779033703), .lit (.int .u32 3144134277), .lit (.int .u32 1013904242), .lit (.int .u32 2773480762), .lit (.int .u32 1359893119), .lit (.int .u32 2600822924), .lit (.int .u32 528734635), .lit (.int .u32 1541459225)]

/-- 'liverylaw11.XmssGrows': WHATEVER THE INPUT: true; the input reads as it did. -/
def xmssGrowsSpec : ChangeSpec := { name := "xmssGrows", fn := fun _ => fun
  | [d1, d2] => { results := [.lit (.bool true)], args := [d1, d2] }
  | _ => none }
def xmssGrowsRow : OpenClaim := { program := "ytjehnljbhmjgoaagreatdoor", sum := "5543d1dac22dd0a324c296ecab00213eeed2a7a391b1e5de981e1d80187a646f", func := "livery/liverylaw11.XmssGrows", spec := "xmssGrows", unfollowed := true, recurses := true, named := ["livery/sha2.start", "livery/sha2.table"], apart := false, laid := [("livery/sha2.table", laid_livery_sha2_table), ("livery/sha2.start", laid_livery_sha2_start)] }
def XmssGrowsSaid : Prop := xmssGrowsRow.holds Tryz.pinned (OpenSpec.ofChange xmssGrowsSpec)

/-- ITS FALSE NEIGHBOUR: 'it returns false'. Refute it at one input. -/
def xmssGrowsWrong : ChangeSpec := { name := "xmssGrows", fn := fun _ => fun
  | [d1, d2] => { results := [.lit (.bool false)], args := [d1, d2] }
  | _ => none }
def XmssGrowsWrongFalsely : Prop := xmssGrowsRow.holds Tryz.pinned (OpenSpec.ofChange xmssGrowsWrong)

/-- 'liverylaw09.HssPublics': WHATEVER THE INPUT: true; the input reads as it did. -/
def hssPublicsSpec : ChangeSpec := { name := "hssPublics", fn := fun _ => fun
  | [d1, d2, d3] => { results := [.lit (.bool true)], args := [d1, d2, d3] }
  | _ => none }
def hssPublicsRow : OpenClaim := { program := "ytjehnljbhmjgoaagreatdoor", sum := "5543d1dac22dd0a324c296ecab00213eeed2a7a391b1e5de981e1d80187a646f", func := "livery/liverylaw09.HssPublics", spec := "hssPublics", unfollowed := true, recurses := true, named := ["livery/sha2.start", "livery/sha2.table"], apart := false, laid := [("livery/sha2.table", laid_livery_sha2_table), ("livery/sha2.start", laid_livery_sha2_start)] }
def HssPublicsSaid : Prop := hssPublicsRow.holds Tryz.pinned (OpenSpec.ofChange hssPublicsSpec)

/-- ITS FALSE NEIGHBOUR: 'it returns false'. Refute it at one input. -/
def hssPublicsWrong : ChangeSpec := { name := "hssPublics", fn := fun _ => fun
  | [d1, d2, d3] => { results := [.lit (.bool false)], args := [d1, d2, d3] }
  | _ => none }
def HssPublicsWrongFalsely : Prop := hssPublicsRow.holds Tryz.pinned (OpenSpec.ofChange hssPublicsWrong)

/-- 'liverylaw09.HssProves': WHATEVER THE INPUT: true; the input reads as it did. -/
def hssProvesSpec : ChangeSpec := { name := "hssProves", fn := fun _ => fun
  | [d1, d2, d3] => { results := [.lit (.bool true)], args := [d1, d2, d3] }
  | _ => none }
def hssProvesRow : OpenClaim := { program := "ytjehnljbhmjgoaagreatdoor", sum := "5543d1dac22dd0a324c296ecab00213eeed2a7a391b1e5de981e1d80187a646f", func := "livery/liverylaw09.HssProves", spec := "hssProves", named := ["livery/sha2.start", "livery/sha2.table"], apart := false, laid := [("livery/sha2.table", laid_livery_sha2_table), ("livery/sha2.start", laid_livery_sha2_start)] }
def HssProvesSaid : Prop := hssProvesRow.holds Tryz.pinned (OpenSpec.ofChange hssProvesSpec)

/-- ITS FALSE NEIGHBOUR: 'it returns false'. Refute it at one input. -/
def hssProvesWrong : ChangeSpec := { name := "hssProves", fn := fun _ => fun
  | [d1, d2, d3] => { results := [.lit (.bool false)], args := [d1, d2, d3] }
  | _ => none }
def HssProvesWrongFalsely : Prop := hssProvesRow.holds Tryz.pinned (OpenSpec.ofChange hssProvesWrong)

/-- 'liverylaw08.LmsSigns': WHATEVER THE INPUT: true; the input reads as it did. -/
def lmsSignsSpec : ChangeSpec := { name := "lmsSigns", fn := fun _ => fun
  | [d1, d2, d3] => { results := [.lit (.bool true)], args := [d1, d2, d3] }
  | _ => none }
def lmsSignsRow : OpenClaim := { program := "ytjehnljbhmjgoaagreatdoor", sum := "5543d1dac22dd0a324c296ecab00213eeed2a7a391b1e5de981e1d80187a646f", func := "livery/liverylaw08.LmsSigns", spec := "lmsSigns", unfollowed := true, recurses := true, named := ["livery/sha2.start", "livery/sha2.table"], apart := false, laid := [("livery/sha2.table", laid_livery_sha2_table), ("livery/sha2.start", laid_livery_sha2_start)] }
def LmsSignsSaid : Prop := lmsSignsRow.holds Tryz.pinned (OpenSpec.ofChange lmsSignsSpec)

/-- ITS FALSE NEIGHBOUR: 'it returns false'. Refute it at one input. -/
def lmsSignsWrong : ChangeSpec := { name := "lmsSigns", fn := fun _ => fun
  | [d1, d2, d3] => { results := [.lit (.bool false)], args := [d1, d2, d3] }
  | _ => none }
def LmsSignsWrongFalsely : Prop := lmsSignsRow.holds Tryz.pinned (OpenSpec.ofChange lmsSignsWrong)

/-- 'liverylaw08.LmsVerifies': WHATEVER THE INPUT: true; the input reads as it did. -/
def lmsVerifiesSpec : ChangeSpec := { name := "lmsVerifies", fn := fun _ => fun
  | [d1, d2, d3] => { results := [.lit (.bool true)], args := [d1, d2, d3] }
  | _ => none }
def lmsVerifiesRow : OpenClaim := { program := "ytjehnljbhmjgoaagreatdoor", sum := "5543d1dac22dd0a324c296ecab00213eeed2a7a391b1e5de981e1d80187a646f", func := "livery/liverylaw08.LmsVerifies", spec := "lmsVerifies", unfollowed := true, recurses := true, named := ["livery/sha2.start", "livery/sha2.table"], apart := false, laid := [("livery/sha2.table", laid_livery_sha2_table), ("livery/sha2.start", laid_livery_sha2_start)] }
def LmsVerifiesSaid : Prop := lmsVerifiesRow.holds Tryz.pinned (OpenSpec.ofChange lmsVerifiesSpec)

/-- ITS FALSE NEIGHBOUR: 'it returns false'. Refute it at one input. -/
def lmsVerifiesWrong : ChangeSpec := { name := "lmsVerifies", fn := fun _ => fun
  | [d1, d2, d3] => { results := [.lit (.bool false)], args := [d1, d2, d3] }
  | _ => none }
def LmsVerifiesWrongFalsely : Prop := lmsVerifiesRow.holds Tryz.pinned (OpenSpec.ofChange lmsVerifiesWrong)

/-- 'liverylaw08.LmsTrees': WHATEVER THE INPUT: true; the input reads as it did. -/
def lmsTreesSpec : ChangeSpec := { name := "lmsTrees", fn := fun _ => fun
  | [d1, d2] => { results := [.lit (.bool true)], args := [d1, d2] }
  | _ => none }
def lmsTreesRow : OpenClaim := { program := "ytjehnljbhmjgoaagreatdoor", sum := "5543d1dac22dd0a324c296ecab00213eeed2a7a391b1e5de981e1d80187a646f", func := "livery/liverylaw08.LmsTrees", spec := "lmsTrees", unfollowed := true, recurses := true, named := ["livery/sha2.start", "livery/sha2.table"], apart := false, laid := [("livery/sha2.table", laid_livery_sha2_table), ("livery/sha2.start", laid_livery_sha2_start)] }
def LmsTreesSaid : Prop := lmsTreesRow.holds Tryz.pinned (OpenSpec.ofChange lmsTreesSpec)

/-- ITS FALSE NEIGHBOUR: 'it returns false'. Refute it at one input. -/
def lmsTreesWrong : ChangeSpec := { name := "lmsTrees", fn := fun _ => fun
  | [d1, d2] => { results := [.lit (.bool false)], args := [d1, d2] }
  | _ => none }
def LmsTreesWrongFalsely : Prop := lmsTreesRow.holds Tryz.pinned (OpenSpec.ofChange lmsTreesWrong)

/-- 'liverylaw09.HssSigns': WHATEVER THE INPUT: true; the input reads as it did. -/
def hssSignsSpec : ChangeSpec := { name := "hssSigns", fn := fun _ => fun
  | [d1, d2, d3, d4, d5] => { results := [.lit (.bool true)], args := [d1, d2, d3, d4, d5] }
  | _ => none }
def hssSignsRow : OpenClaim := { program := "ytjehnljbhmjgoaagreatdoor", sum := "5543d1dac22dd0a324c296ecab00213eeed2a7a391b1e5de981e1d80187a646f", func := "livery/liverylaw09.HssSigns", spec := "hssSigns", unfollowed := true, recurses := true, named := ["livery/sha2.start", "livery/sha2.table"], apart := false, laid := [("livery/sha2.table", laid_livery_sha2_table), ("livery/sha2.start", laid_livery_sha2_start)] }
def HssSignsSaid : Prop := hssSignsRow.holds Tryz.pinned (OpenSpec.ofChange hssSignsSpec)

/-- ITS FALSE NEIGHBOUR: 'it returns false'. Refute it at one input. -/
def hssSignsWrong : ChangeSpec := { name := "hssSigns", fn := fun _ => fun
  | [d1, d2, d3, d4, d5] => { results := [.lit (.bool false)], args := [d1, d2, d3, d4, d5] }
  | _ => none }
def HssSignsWrongFalsely : Prop := hssSignsRow.holds Tryz.pinned (OpenSpec.ofChange hssSignsWrong)

/-- 'liverylaw09.HssChild': WHATEVER THE INPUT: true; the input reads as it did. -/
def hssChildSpec : ChangeSpec := { name := "hssChild", fn := fun _ => fun
  | [d1, d2, d3, d4, d5, d6, d7] => { results := [.lit (.bool true)], args := [d1, d2, d3, d4, d5, d6, d7] }
  | _ => none }
def hssChildRow : OpenClaim := { program := "ytjehnljbhmjgoaagreatdoor", sum := "5543d1dac22dd0a324c296ecab00213eeed2a7a391b1e5de981e1d80187a646f", func := "livery/liverylaw09.HssChild", spec := "hssChild", unfollowed := true, recurses := true, named := ["livery/sha2.start", "livery/sha2.table"], apart := false, laid := [("livery/sha2.table", laid_livery_sha2_table), ("livery/sha2.start", laid_livery_sha2_start)] }
def HssChildSaid : Prop := hssChildRow.holds Tryz.pinned (OpenSpec.ofChange hssChildSpec)

/-- ITS FALSE NEIGHBOUR: 'it returns false'. Refute it at one input. -/
def hssChildWrong : ChangeSpec := { name := "hssChild", fn := fun _ => fun
  | [d1, d2, d3, d4, d5, d6, d7] => { results := [.lit (.bool false)], args := [d1, d2, d3, d4, d5, d6, d7] }
  | _ => none }
def HssChildWrongFalsely : Prop := hssChildRow.holds Tryz.pinned (OpenSpec.ofChange hssChildWrong)

/-- 'liverylaw08.LmsGrows': WHATEVER THE INPUT: true; the input reads as it did. -/
def lmsGrowsSpec : ChangeSpec := { name := "lmsGrows", fn := fun _ => fun
  | [d1, d2] => { results := [.lit (.bool true)], args := [d1, d2] }
  | _ => none }
def lmsGrowsRow : OpenClaim := { program := "ytjehnljbhmjgoaagreatdoor", sum := "5543d1dac22dd0a324c296ecab00213eeed2a7a391b1e5de981e1d80187a646f", func := "livery/liverylaw08.LmsGrows", spec := "lmsGrows", unfollowed := true, recurses := true, named := ["livery/sha2.start", "livery/sha2.table"], apart := false, laid := [("livery/sha2.table", laid_livery_sha2_table), ("livery/sha2.start", laid_livery_sha2_start)] }
def LmsGrowsSaid : Prop := lmsGrowsRow.holds Tryz.pinned (OpenSpec.ofChange lmsGrowsSpec)

/-- ITS FALSE NEIGHBOUR: 'it returns false'. Refute it at one input. -/
def lmsGrowsWrong : ChangeSpec := { name := "lmsGrows", fn := fun _ => fun
  | [d1, d2] => { results := [.lit (.bool false)], args := [d1, d2] }
  | _ => none }
def LmsGrowsWrongFalsely : Prop := lmsGrowsRow.holds Tryz.pinned (OpenSpec.ofChange lmsGrowsWrong)

/-- 'liverylaw08.LmsFew': WHATEVER THE INPUT: true; the input reads as it did. -/
def lmsFewSpec : ChangeSpec := { name := "lmsFew", fn := fun _ => fun
  | [d] => { results := [.lit (.bool true)], args := [d] }
  | _ => none }
def lmsFewRow : OpenClaim := { program := "ytjehnljbhmjgoaagreatdoor", sum := "5543d1dac22dd0a324c296ecab00213eeed2a7a391b1e5de981e1d80187a646f", func := "livery/liverylaw08.LmsFew", spec := "lmsFew", unfollowed := true, recurses := true, named := ["livery/sha2.start", "livery/sha2.table"], apart := false, laid := [("livery/sha2.table", laid_livery_sha2_table), ("livery/sha2.start", laid_livery_sha2_start)] }
def LmsFewSaid : Prop := lmsFewRow.holds Tryz.pinned (OpenSpec.ofChange lmsFewSpec)

/-- ITS FALSE NEIGHBOUR: 'it returns false'. Refute it at one input. -/
def lmsFewWrong : ChangeSpec := { name := "lmsFew", fn := fun _ => fun
  | [d] => { results := [.lit (.bool false)], args := [d] }
  | _ => none }
def LmsFewWrongFalsely : Prop := lmsFewRow.holds Tryz.pinned (OpenSpec.ofChange lmsFewWrong)

/-- 'liverylaw08.LmsNodes': WHATEVER THE INPUT: true; the input reads as it did. -/
def lmsNodesSpec : ChangeSpec := { name := "lmsNodes", fn := fun _ => fun
  | [d1, d2, d3, d4] => { results := [.lit (.bool true)], args := [d1, d2, d3, d4] }
  | _ => none }
def lmsNodesRow : OpenClaim := { program := "ytjehnljbhmjgoaagreatdoor", sum := "5543d1dac22dd0a324c296ecab00213eeed2a7a391b1e5de981e1d80187a646f", func := "livery/liverylaw08.LmsNodes", spec := "lmsNodes", unfollowed := true, recurses := true, named := ["livery/sha2.start", "livery/sha2.table"], apart := false, laid := [("livery/sha2.table", laid_livery_sha2_table), ("livery/sha2.start", laid_livery_sha2_start)] }
def LmsNodesSaid : Prop := lmsNodesRow.holds Tryz.pinned (OpenSpec.ofChange lmsNodesSpec)

/-- ITS FALSE NEIGHBOUR: 'it returns false'. Refute it at one input. -/
def lmsNodesWrong : ChangeSpec := { name := "lmsNodes", fn := fun _ => fun
  | [d1, d2, d3, d4] => { results := [.lit (.bool false)], args := [d1, d2, d3, d4] }
  | _ => none }
def LmsNodesWrongFalsely : Prop := lmsNodesRow.holds Tryz.pinned (OpenSpec.ofChange lmsNodesWrong)

/-- 'liverylaw08.LmsUp': WHATEVER THE INPUT: true; the input reads as it did. -/
def lmsUpSpec : ChangeSpec := { name := "lmsUp", fn := fun _ => fun
  | [d1, d2] => { results := [.lit (.bool true)], args := [d1, d2] }
  | _ => none }
def lmsUpRow : OpenClaim := { program := "ytjehnljbhmjgoaagreatdoor", sum := "5543d1dac22dd0a324c296ecab00213eeed2a7a391b1e5de981e1d80187a646f", func := "livery/liverylaw08.LmsUp", spec := "lmsUp", unfollowed := true, recurses := true, named := ["livery/sha2.start", "livery/sha2.table"], apart := false, laid := [("livery/sha2.table", laid_livery_sha2_table), ("livery/sha2.start", laid_livery_sha2_start)] }
def LmsUpSaid : Prop := lmsUpRow.holds Tryz.pinned (OpenSpec.ofChange lmsUpSpec)

/-- ITS FALSE NEIGHBOUR: 'it returns false'. Refute it at one input. -/
def lmsUpWrong : ChangeSpec := { name := "lmsUp", fn := fun _ => fun
  | [d1, d2] => { results := [.lit (.bool false)], args := [d1, d2] }
  | _ => none }
def LmsUpWrongFalsely : Prop := lmsUpRow.holds Tryz.pinned (OpenSpec.ofChange lmsUpWrong)

/-- 'liverylaw09.HssOwn': WHATEVER THE INPUT: true; the input reads as it did. -/
def hssOwnSpec : ChangeSpec := { name := "hssOwn", fn := fun _ => fun
  | [d1, d2, d3, d4, d5] => { results := [.lit (.bool true)], args := [d1, d2, d3, d4, d5] }
  | _ => none }
def hssOwnRow : OpenClaim := { program := "ytjehnljbhmjgoaagreatdoor", sum := "5543d1dac22dd0a324c296ecab00213eeed2a7a391b1e5de981e1d80187a646f", func := "livery/liverylaw09.HssOwn", spec := "hssOwn", unfollowed := true, recurses := true, named := ["livery/sha2.start", "livery/sha2.table"], apart := false, laid := [("livery/sha2.table", laid_livery_sha2_table), ("livery/sha2.start", laid_livery_sha2_start)] }
def HssOwnSaid : Prop := hssOwnRow.holds Tryz.pinned (OpenSpec.ofChange hssOwnSpec)

/-- ITS FALSE NEIGHBOUR: 'it returns false'. Refute it at one input. -/
def hssOwnWrong : ChangeSpec := { name := "hssOwn", fn := fun _ => fun
  | [d1, d2, d3, d4, d5] => { results := [.lit (.bool false)], args := [d1, d2, d3, d4, d5] }
  | _ => none }
def HssOwnWrongFalsely : Prop := hssOwnRow.holds Tryz.pinned (OpenSpec.ofChange hssOwnWrong)

/- THE SECOND FORM. 'bulk': how many values and letters a reading holds, each counted each time it is reached (what is shared counts as often as it is met; a slice's spare places count too). A statement '..UptoSaid' is the law's where the arguments, and the package variables that the reading takes, are together of bulk at most 1048576: NARROWER than '..Said'. Prove '..Said' where nothing that the law and all that it calls make is longer than what came in: it says more and counts as full. Else prove '..UptoSaid'. A law counts once. -/
mutual
def uptoBulk {H : Type} : DataW H → Nat
  | .lit (.string bytes) => bytes.length + 1
  | .lit _ => 1
  | .nil => 1
  | .ptr d => uptoBulk d + 1
  | .slice elems spare => uptoBulkAll elems + uptoBulkAll spare + 1
  | .agg parts => uptoBulkAll parts + 1
  | .iface _ d => uptoBulk d + 1
  | .map entries => uptoBulkEntries entries + 1
  | .held _ => 1
def uptoBulkAll {H : Type} : List (DataW H) → Nat
  | [] => 0
  | d :: r => uptoBulk d + uptoBulkAll r
def uptoBulkEntries {H : Type} : List (Lit × DataW H) → Nat
  | [] => 0
  | x :: r => uptoBulkEntry x + uptoBulkEntries r
def uptoBulkEntry {H : Type} : Lit × DataW H → Nat
  | (.string bytes, d) => bytes.length + uptoBulk d + 1
  | (_, d) => uptoBulk d + 1
 end
def uptoSmall : (H : Type) → List (DataW H) → Bool := fun _ ds => decide (uptoBulkAll ds ≤ 1048576)
def OpenSpec.upto (s : _root_.Go.ChangeSpec) : _root_.Go.OpenSpec := { _root_.Go.OpenSpec.ofChange s with cond := some uptoSmall }

/-- 'liverylaw11.XmssGrows', WHERE WHAT IT READS IS OF BULK AT MOST 1048576: true; the input reads as it did. -/
def xmssGrowsUptoRow : OpenClaim := { program := "ytjehnljbhmjgoaagreatdoor", sum := "5543d1dac22dd0a324c296ecab00213eeed2a7a391b1e5de981e1d80187a646f", func := "livery/liverylaw11.XmssGrows", spec := "xmssGrows", unfollowed := true, recurses := true, named := ["livery/sha2.start", "livery/sha2.table"], apart := false, laid := [("livery/sha2.table", laid_livery_sha2_table), ("livery/sha2.start", laid_livery_sha2_start)], narrowed := true }
def XmssGrowsUptoSaid : Prop := xmssGrowsUptoRow.holds Tryz.pinned (OpenSpec.upto xmssGrowsSpec)

/-- 'liverylaw09.HssPublics', WHERE WHAT IT READS IS OF BULK AT MOST 1048576: true; the input reads as it did. -/
def hssPublicsUptoRow : OpenClaim := { program := "ytjehnljbhmjgoaagreatdoor", sum := "5543d1dac22dd0a324c296ecab00213eeed2a7a391b1e5de981e1d80187a646f", func := "livery/liverylaw09.HssPublics", spec := "hssPublics", unfollowed := true, recurses := true, named := ["livery/sha2.start", "livery/sha2.table"], apart := false, laid := [("livery/sha2.table", laid_livery_sha2_table), ("livery/sha2.start", laid_livery_sha2_start)], narrowed := true }
def HssPublicsUptoSaid : Prop := hssPublicsUptoRow.holds Tryz.pinned (OpenSpec.upto hssPublicsSpec)

/-- 'liverylaw09.HssProves', WHERE WHAT IT READS IS OF BULK AT MOST 1048576: true; the input reads as it did. -/
def hssProvesUptoRow : OpenClaim := { program := "ytjehnljbhmjgoaagreatdoor", sum := "5543d1dac22dd0a324c296ecab00213eeed2a7a391b1e5de981e1d80187a646f", func := "livery/liverylaw09.HssProves", spec := "hssProves", named := ["livery/sha2.start", "livery/sha2.table"], apart := false, laid := [("livery/sha2.table", laid_livery_sha2_table), ("livery/sha2.start", laid_livery_sha2_start)], narrowed := true }
def HssProvesUptoSaid : Prop := hssProvesUptoRow.holds Tryz.pinned (OpenSpec.upto hssProvesSpec)

/-- 'liverylaw08.LmsSigns', WHERE WHAT IT READS IS OF BULK AT MOST 1048576: true; the input reads as it did. -/
def lmsSignsUptoRow : OpenClaim := { program := "ytjehnljbhmjgoaagreatdoor", sum := "5543d1dac22dd0a324c296ecab00213eeed2a7a391b1e5de981e1d80187a646f", func := "livery/liverylaw08.LmsSigns", spec := "lmsSigns", unfollowed := true, recurses := true, named := ["livery/sha2.start", "livery/sha2.table"], apart := false, laid := [("livery/sha2.table", laid_livery_sha2_table), ("livery/sha2.start", laid_livery_sha2_start)], narrowed := true }
def LmsSignsUptoSaid : Prop := lmsSignsUptoRow.holds Tryz.pinned (OpenSpec.upto lmsSignsSpec)

/-- 'liverylaw08.LmsVerifies', WHERE WHAT IT READS IS OF BULK AT MOST 1048576: true; the input reads as it did. -/
def lmsVerifiesUptoRow : OpenClaim := { program := "ytjehnljbhmjgoaagreatdoor", sum := "5543d1dac22dd0a324c296ecab00213eeed2a7a391b1e5de981e1d80187a646f", func := "livery/liverylaw08.LmsVerifies", spec := "lmsVerifies", unfollowed := true, recurses := true, named := ["livery/sha2.start", "livery/sha2.table"], apart := false, laid := [("livery/sha2.table", laid_livery_sha2_table), ("livery/sha2.start", laid_livery_sha2_start)], narrowed := true }
def LmsVerifiesUptoSaid : Prop := lmsVerifiesUptoRow.holds Tryz.pinned (OpenSpec.upto lmsVerifiesSpec)

/-- 'liverylaw08.LmsTrees', WHERE WHAT IT READS IS OF BULK AT MOST 1048576: true; the input reads as it did. -/
def lmsTreesUptoRow : OpenClaim := { program := "ytjehnljbhmjgoaagreatdoor", sum := "5543d1dac22dd0a324c296ecab00213eeed2a7a391b1e5de981e1d80187a646f", func := "livery/liverylaw08.LmsTrees", spec := "lmsTrees", unfollowed := true, recurses := true, named := ["livery/sha2.start", "livery/sha2.table"], apart := false, laid := [("livery/sha2.table", laid_livery_sha2_table), ("livery/sha2.start", laid_livery_sha2_start)], narrowed := true }
def LmsTreesUptoSaid : Prop := lmsTreesUptoRow.holds Tryz.pinned (OpenSpec.upto lmsTreesSpec)

/-- 'liverylaw09.HssSigns', WHERE WHAT IT READS IS OF BULK AT MOST 1048576: true; the input reads as it did. -/
def hssSignsUptoRow : OpenClaim := { program := "ytjehnljbhmjgoaagreatdoor", sum := "5543d1dac22dd0a324c296ecab00213eeed2a7a391b1e5de981e1d80187a646f", func := "livery/liverylaw09.HssSigns", spec := "hssSigns", unfollowed := true, recurses := true, named := ["livery/sha2.start", "livery/sha2.table"], apart := false, laid := [("livery/sha2.table", laid_livery_sha2_table), ("livery/sha2.start", laid_livery_sha2_start)], narrowed := true }
def HssSignsUptoSaid : Prop := hssSignsUptoRow.holds Tryz.pinned (OpenSpec.upto hssSignsSpec)

/-- 'liverylaw09.HssChild', WHERE WHAT IT READS IS OF BULK AT MOST 1048576: true; the input reads as it did. -/
def hssChildUptoRow : OpenClaim := { program := "ytjehnljbhmjgoaagreatdoor", sum := "5543d1dac22dd0a324c296ecab00213eeed2a7a391b1e5de981e1d80187a646f", func := "livery/liverylaw09.HssChild", spec := "hssChild", unfollowed := true, recurses := true, named := ["livery/sha2.start", "livery/sha2.table"], apart := false, laid := [("livery/sha2.table", laid_livery_sha2_table), ("livery/sha2.start", laid_livery_sha2_start)], narrowed := true }
def HssChildUptoSaid : Prop := hssChildUptoRow.holds Tryz.pinned (OpenSpec.upto hssChildSpec)

/-- 'liverylaw08.LmsGrows', WHERE WHAT IT READS IS OF BULK AT MOST 1048576: true; the input reads as it did. -/
def lmsGrowsUptoRow : OpenClaim := { program := "ytjehnljbhmjgoaagreatdoor", sum := "5543d1dac22dd0a324c296ecab00213eeed2a7a391b1e5de981e1d80187a646f", func := "livery/liverylaw08.LmsGrows", spec := "lmsGrows", unfollowed := true, recurses := true, named := ["livery/sha2.start", "livery/sha2.table"], apart := false, laid := [("livery/sha2.table", laid_livery_sha2_table), ("livery/sha2.start", laid_livery_sha2_start)], narrowed := true }
def LmsGrowsUptoSaid : Prop := lmsGrowsUptoRow.holds Tryz.pinned (OpenSpec.upto lmsGrowsSpec)

/-- 'liverylaw08.LmsFew', WHERE WHAT IT READS IS OF BULK AT MOST 1048576: true; the input reads as it did. -/
def lmsFewUptoRow : OpenClaim := { program := "ytjehnljbhmjgoaagreatdoor", sum := "5543d1dac22dd0a324c296ecab00213eeed2a7a391b1e5de981e1d80187a646f", func := "livery/liverylaw08.LmsFew", spec := "lmsFew", unfollowed := true, recurses := true, named := ["livery/sha2.start", "livery/sha2.table"], apart := false, laid := [("livery/sha2.table", laid_livery_sha2_table), ("livery/sha2.start", laid_livery_sha2_start)], narrowed := true }
def LmsFewUptoSaid : Prop := lmsFewUptoRow.holds Tryz.pinned (OpenSpec.upto lmsFewSpec)

/-- 'liverylaw08.LmsNodes', WHERE WHAT IT READS IS OF BULK AT MOST 1048576: true; the input reads as it did. -/
def lmsNodesUptoRow : OpenClaim := { program := "ytjehnljbhmjgoaagreatdoor", sum := "5543d1dac22dd0a324c296ecab00213eeed2a7a391b1e5de981e1d80187a646f", func := "livery/liverylaw08.LmsNodes", spec := "lmsNodes", unfollowed := true, recurses := true, named := ["livery/sha2.start", "livery/sha2.table"], apart := false, laid := [("livery/sha2.table", laid_livery_sha2_table), ("livery/sha2.start", laid_livery_sha2_start)], narrowed := true }
def LmsNodesUptoSaid : Prop := lmsNodesUptoRow.holds Tryz.pinned (OpenSpec.upto lmsNodesSpec)

/-- 'liverylaw08.LmsUp', WHERE WHAT IT READS IS OF BULK AT MOST 1048576: true; the input reads as it did. -/
def lmsUpUptoRow : OpenClaim := { program := "ytjehnljbhmjgoaagreatdoor", sum := "5543d1dac22dd0a324c296ecab00213eeed2a7a391b1e5de981e1d80187a646f", func := "livery/liverylaw08.LmsUp", spec := "lmsUp", unfollowed := true, recurses := true, named := ["livery/sha2.start", "livery/sha2.table"], apart := false, laid := [("livery/sha2.table", laid_livery_sha2_table), ("livery/sha2.start", laid_livery_sha2_start)], narrowed := true }
def LmsUpUptoSaid : Prop := lmsUpUptoRow.holds Tryz.pinned (OpenSpec.upto lmsUpSpec)

/-- 'liverylaw09.HssOwn', WHERE WHAT IT READS IS OF BULK AT MOST 1048576: true; the input reads as it did. -/
def hssOwnUptoRow : OpenClaim := { program := "ytjehnljbhmjgoaagreatdoor", sum := "5543d1dac22dd0a324c296ecab00213eeed2a7a391b1e5de981e1d80187a646f", func := "livery/liverylaw09.HssOwn", spec := "hssOwn", unfollowed := true, recurses := true, named := ["livery/sha2.start", "livery/sha2.table"], apart := false, laid := [("livery/sha2.table", laid_livery_sha2_table), ("livery/sha2.start", laid_livery_sha2_start)], narrowed := true }
def HssOwnUptoSaid : Prop := hssOwnUptoRow.holds Tryz.pinned (OpenSpec.upto hssOwnSpec)

end Rows
end Go.Proofs.YtjehnljbhmjgoaaGreatDoor
