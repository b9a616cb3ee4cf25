/-
  NARROWER THAN 'FOR EVERY INPUT', by the rows' own cells (each row's printed sentence says how): HbsSigns: laid · HbsBytes: laid · HssPublics: laid · HssProves: laid · HssSigns: laid · HssChild: laid · HssOwn: laid · HbsMakes: laid · HbsVerifies: laid · HbsNumbers: laid · HbsRight: laid.
  DERIVED. THE GIVEN ROWS OF THIS SEAT. 11 by the template 'for every input the law returns true; each argument reads behind the call as it read before'; 0 by the template 'total and deterministic' (their statements: YtffmejeeddplaaaGreatDoorTotals.lean).
  GIVEN WITH THE SEED: the statements are not yours to turn. If you find one false, say at which input.
  Laid BY PROGRAM, IN A SANDBOX (cutbox-rows.mjs): the forced cells as the released guide's own fill.sh prints them over the translation 17acb86018af0124… (all of the seat's roots in one cut). By AI agents, Wed Nov 11 2026. No macro, syntax, notation, axiom, sorry.
-/
import Derived.Test.YtffmejeeddplaaaGreatDoorChecked
import GoSem.Claim
import GoSem.ClaimJoined
import GoSem.ClaimMapViews
import Derived.JoinedTies
import Derived.KernelRfl
namespace Go.Proofs.YtffmejeeddplaaaGreatDoor
/- THE CELL 'sum', in the pinned program and in every row, IS THE sha256 OF THE DUMP (.gsa) THAT YtffmejeeddplaaaGreatDoorProg.lean LOADS. Nothing in Lean hashes anything: it is a label: what it is worth is what the hold of that sum in a sandbox is worth. -/
noncomputable def Tryz.pinned : Pinned := { name := "ytffmejeeddplaaagreatdoor", sum := "17acb86018af0124aaa2a1ede256a648c8253dbe27ffcbbd65d4e475aaf7b412", checked := Tryz.checked }
namespace Rows
def none {H : Type} : Left H := { results := [], args := [] }

/- WHAT THE LISTED PACKAGE-LEVEL VARIABLES READ AS WHEN THE CALL BEGINS. Each datum BY PROGRAM (the guide's laid-datum.mjs) off the statement by which the dump's own 'gosem.cut.vars' lays the variable. In a bare row this is a premise. The card (YtffmejeeddplaaaGreatDoorCards.lean) ties it to the program's text. -/
def laid_livery_sha2_table {H : Type} : DataW H := .agg [.lit (.int .u32 1116352408), .lit (.int .u32 1899447441), .lit (.int .u32 3049323471), .lit (.int .u32 3921009573), .lit (.int .u32 961987163), .lit (.int .u32 1508970993), .lit (.int .u32 2453635748), .lit (.int .u32 2870763221), .lit (.int .u32 3624381080), .lit (.int .u32 310598401), .lit (.int .u32 607225278), .lit (.int .u32 1426881987), .lit (.int .u32 1925078388), .lit (.int .u32 2162078206), .lit (.int .u32 2614888103), .lit (.int .u32 3248222580), .lit (.int .u32 3835390401), .lit (.int .u32 4022224774), .lit (.int .u32 264347078), .lit (.int .u32 604807628), .lit (.int .u32 770255983), .lit (.int .u32 1249150122), .lit (.int .u32 1555081692), .lit (.int .u32 1996064986), .lit (.int .u32 2554220882), .lit (.int .u32 2821834349), .lit (.int .u32 2952996808), .lit (.int .u32 3210313671), .lit (.int .u32 3336571891), .lit (.int .u32 3584528711), .lit (.int .u32 113926993), .lit (.int .u32 338241895), .lit (.int .u32 666307205), .lit (.int .u32 773529912), .lit (.int .u32 1294757372), .lit (.int .u32 1396182291), .lit (.int .u32 1695183700), .lit (.int .u32 1986661051), .lit (.int .u32 2177026350), .lit (.int .u32 2456956037), .lit (.int .u32 2730485921), .lit (.int .u32 2820302411), .lit (.int .u32 3259730800), .lit (.int .u32 3345764771), .lit (.int .u32 3516065817), .lit (.int .u32 3600352804), .lit (.int .u32 4094571909), .lit (.int .u32 275423344), .lit (.int .u32 430227734), .lit (.int .u32 506948616), .lit (.int .u32 659060556), .lit (.int .u32 883997877), .lit (.int .u32 958139571), .lit (.int .u32 1322822218), .lit (.int .u32 1537002063), .lit (.int .u32 1747873779), .lit (.int .u32 1955562222), .lit (.int .u32 2024104815), .lit (.int .u32 2227730452), .lit (.int .u32 2361852424), .lit (.int .u32 2428436474), .lit (.int .u32 2756734187), .lit (.int .u32 3204031479), .lit (.int .u32 3329325298)]
def laid_livery_sha2_start {H : Type} : DataW H := .agg [.lit (.int .u32 1779033703), .lit (.int .u32 3144134277), .lit (.int .u32 1013904242), .lit (.int .u32 2773480762), .lit (.int .u32 1359893119), .lit (.int .u32 2600822924), .lit (.int .u32 528734635), .lit (.int .u32 1541459225)]

/-- 'liverylaw12.HbsSigns': WHATEVER THE INPUT: true; the input reads as it did. -/
def hbsSignsSpec : ChangeSpec := { name := "hbsSigns", fn := fun _ => fun
  | [d1, d2, d3] => { results := [.lit (.bool true)], args := [d1, d2, d3] }
  | _ => none }
def hbsSignsRow : OpenClaim := { program := "ytffmejeeddplaaagreatdoor", sum := "17acb86018af0124aaa2a1ede256a648c8253dbe27ffcbbd65d4e475aaf7b412", func := "livery/liverylaw12.HbsSigns", spec := "hbsSigns", unfollowed := true, recurses := true, named := ["livery/sha2.start", "livery/sha2.table"], apart := false, laid := [("livery/sha2.table", laid_livery_sha2_table), ("livery/sha2.start", laid_livery_sha2_start)] }
def HbsSignsSaid : Prop := hbsSignsRow.holds Tryz.pinned (OpenSpec.ofChange hbsSignsSpec)

/-- ITS FALSE NEIGHBOUR: 'it returns false'. Refute it at one input. -/
def hbsSignsWrong : ChangeSpec := { name := "hbsSigns", fn := fun _ => fun
  | [d1, d2, d3] => { results := [.lit (.bool false)], args := [d1, d2, d3] }
  | _ => none }
def HbsSignsWrongFalsely : Prop := hbsSignsRow.holds Tryz.pinned (OpenSpec.ofChange hbsSignsWrong)

/-- 'liverylaw12.HbsBytes': WHATEVER THE INPUT: true; the input reads as it did. -/
def hbsBytesSpec : ChangeSpec := { name := "hbsBytes", fn := fun _ => fun
  | [d1, d2, d3] => { results := [.lit (.bool true)], args := [d1, d2, d3] }
  | _ => none }
def hbsBytesRow : OpenClaim := { program := "ytffmejeeddplaaagreatdoor", sum := "17acb86018af0124aaa2a1ede256a648c8253dbe27ffcbbd65d4e475aaf7b412", func := "livery/liverylaw12.HbsBytes", spec := "hbsBytes", unfollowed := true, recurses := true, named := ["livery/sha2.start", "livery/sha2.table"], apart := false, laid := [("livery/sha2.table", laid_livery_sha2_table), ("livery/sha2.start", laid_livery_sha2_start)] }
def HbsBytesSaid : Prop := hbsBytesRow.holds Tryz.pinned (OpenSpec.ofChange hbsBytesSpec)

/-- ITS FALSE NEIGHBOUR: 'it returns false'. Refute it at one input. -/
def hbsBytesWrong : ChangeSpec := { name := "hbsBytes", fn := fun _ => fun
  | [d1, d2, d3] => { results := [.lit (.bool false)], args := [d1, d2, d3] }
  | _ => none }
def HbsBytesWrongFalsely : Prop := hbsBytesRow.holds Tryz.pinned (OpenSpec.ofChange hbsBytesWrong)

/-- 'liverylaw09.HssPublics': WHATEVER THE INPUT: true; the input reads as it did. -/
def hssPublicsSpec : ChangeSpec := { name := "hssPublics", fn := fun _ => fun
  | [d1, d2, d3] => { results := [.lit (.bool true)], args := [d1, d2, d3] }
  | _ => none }
def hssPublicsRow : OpenClaim := { program := "ytffmejeeddplaaagreatdoor", sum := "17acb86018af0124aaa2a1ede256a648c8253dbe27ffcbbd65d4e475aaf7b412", func := "livery/liverylaw09.HssPublics", spec := "hssPublics", unfollowed := true, recurses := true, named := ["livery/sha2.start", "livery/sha2.table"], apart := false, laid := [("livery/sha2.table", laid_livery_sha2_table), ("livery/sha2.start", laid_livery_sha2_start)] }
def HssPublicsSaid : Prop := hssPublicsRow.holds Tryz.pinned (OpenSpec.ofChange hssPublicsSpec)

/-- ITS FALSE NEIGHBOUR: 'it returns false'. Refute it at one input. -/
def hssPublicsWrong : ChangeSpec := { name := "hssPublics", fn := fun _ => fun
  | [d1, d2, d3] => { results := [.lit (.bool false)], args := [d1, d2, d3] }
  | _ => none }
def HssPublicsWrongFalsely : Prop := hssPublicsRow.holds Tryz.pinned (OpenSpec.ofChange hssPublicsWrong)

/-- 'liverylaw09.HssProves': WHATEVER THE INPUT: true; the input reads as it did. -/
def hssProvesSpec : ChangeSpec := { name := "hssProves", fn := fun _ => fun
  | [d1, d2, d3] => { results := [.lit (.bool true)], args := [d1, d2, d3] }
  | _ => none }
def hssProvesRow : OpenClaim := { program := "ytffmejeeddplaaagreatdoor", sum := "17acb86018af0124aaa2a1ede256a648c8253dbe27ffcbbd65d4e475aaf7b412", func := "livery/liverylaw09.HssProves", spec := "hssProves", named := ["livery/sha2.start", "livery/sha2.table"], apart := false, laid := [("livery/sha2.table", laid_livery_sha2_table), ("livery/sha2.start", laid_livery_sha2_start)] }
def HssProvesSaid : Prop := hssProvesRow.holds Tryz.pinned (OpenSpec.ofChange hssProvesSpec)

/-- ITS FALSE NEIGHBOUR: 'it returns false'. Refute it at one input. -/
def hssProvesWrong : ChangeSpec := { name := "hssProves", fn := fun _ => fun
  | [d1, d2, d3] => { results := [.lit (.bool false)], args := [d1, d2, d3] }
  | _ => none }
def HssProvesWrongFalsely : Prop := hssProvesRow.holds Tryz.pinned (OpenSpec.ofChange hssProvesWrong)

/-- 'liverylaw09.HssSigns': WHATEVER THE INPUT: true; the input reads as it did. -/
def hssSignsSpec : ChangeSpec := { name := "hssSigns", fn := fun _ => fun
  | [d1, d2, d3, d4, d5] => { results := [.lit (.bool true)], args := [d1, d2, d3, d4, d5] }
  | _ => none }
def hssSignsRow : OpenClaim := { program := "ytffmejeeddplaaagreatdoor", sum := "17acb86018af0124aaa2a1ede256a648c8253dbe27ffcbbd65d4e475aaf7b412", func := "livery/liverylaw09.HssSigns", spec := "hssSigns", unfollowed := true, recurses := true, named := ["livery/sha2.start", "livery/sha2.table"], apart := false, laid := [("livery/sha2.table", laid_livery_sha2_table), ("livery/sha2.start", laid_livery_sha2_start)] }
def HssSignsSaid : Prop := hssSignsRow.holds Tryz.pinned (OpenSpec.ofChange hssSignsSpec)

/-- ITS FALSE NEIGHBOUR: 'it returns false'. Refute it at one input. -/
def hssSignsWrong : ChangeSpec := { name := "hssSigns", fn := fun _ => fun
  | [d1, d2, d3, d4, d5] => { results := [.lit (.bool false)], args := [d1, d2, d3, d4, d5] }
  | _ => none }
def HssSignsWrongFalsely : Prop := hssSignsRow.holds Tryz.pinned (OpenSpec.ofChange hssSignsWrong)

/-- 'liverylaw09.HssChild': WHATEVER THE INPUT: true; the input reads as it did. -/
def hssChildSpec : ChangeSpec := { name := "hssChild", fn := fun _ => fun
  | [d1, d2, d3, d4, d5, d6, d7] => { results := [.lit (.bool true)], args := [d1, d2, d3, d4, d5, d6, d7] }
  | _ => none }
def hssChildRow : OpenClaim := { program := "ytffmejeeddplaaagreatdoor", sum := "17acb86018af0124aaa2a1ede256a648c8253dbe27ffcbbd65d4e475aaf7b412", func := "livery/liverylaw09.HssChild", spec := "hssChild", unfollowed := true, recurses := true, named := ["livery/sha2.start", "livery/sha2.table"], apart := false, laid := [("livery/sha2.table", laid_livery_sha2_table), ("livery/sha2.start", laid_livery_sha2_start)] }
def HssChildSaid : Prop := hssChildRow.holds Tryz.pinned (OpenSpec.ofChange hssChildSpec)

/-- ITS FALSE NEIGHBOUR: 'it returns false'. Refute it at one input. -/
def hssChildWrong : ChangeSpec := { name := "hssChild", fn := fun _ => fun
  | [d1, d2, d3, d4, d5, d6, d7] => { results := [.lit (.bool false)], args := [d1, d2, d3, d4, d5, d6, d7] }
  | _ => none }
def HssChildWrongFalsely : Prop := hssChildRow.holds Tryz.pinned (OpenSpec.ofChange hssChildWrong)

/-- 'liverylaw09.HssOwn': WHATEVER THE INPUT: true; the input reads as it did. -/
def hssOwnSpec : ChangeSpec := { name := "hssOwn", fn := fun _ => fun
  | [d1, d2, d3, d4, d5] => { results := [.lit (.bool true)], args := [d1, d2, d3, d4, d5] }
  | _ => none }
def hssOwnRow : OpenClaim := { program := "ytffmejeeddplaaagreatdoor", sum := "17acb86018af0124aaa2a1ede256a648c8253dbe27ffcbbd65d4e475aaf7b412", func := "livery/liverylaw09.HssOwn", spec := "hssOwn", unfollowed := true, recurses := true, named := ["livery/sha2.start", "livery/sha2.table"], apart := false, laid := [("livery/sha2.table", laid_livery_sha2_table), ("livery/sha2.start", laid_livery_sha2_start)] }
def HssOwnSaid : Prop := hssOwnRow.holds Tryz.pinned (OpenSpec.ofChange hssOwnSpec)

/-- ITS FALSE NEIGHBOUR: 'it returns false'. Refute it at one input. -/
def hssOwnWrong : ChangeSpec := { name := "hssOwn", fn := fun _ => fun
  | [d1, d2, d3, d4, d5] => { results := [.lit (.bool false)], args := [d1, d2, d3, d4, d5] }
  | _ => none }
def HssOwnWrongFalsely : Prop := hssOwnRow.holds Tryz.pinned (OpenSpec.ofChange hssOwnWrong)

/-- 'liverylaw12.HbsMakes': WHATEVER THE INPUT: true; the input reads as it did. -/
def hbsMakesSpec : ChangeSpec := { name := "hbsMakes", fn := fun _ => fun
  | [d1, d2, d3, d4, d5] => { results := [.lit (.bool true)], args := [d1, d2, d3, d4, d5] }
  | _ => none }
def hbsMakesRow : OpenClaim := { program := "ytffmejeeddplaaagreatdoor", sum := "17acb86018af0124aaa2a1ede256a648c8253dbe27ffcbbd65d4e475aaf7b412", func := "livery/liverylaw12.HbsMakes", spec := "hbsMakes", unfollowed := true, recurses := true, named := ["livery/sha2.start", "livery/sha2.table"], apart := false, laid := [("livery/sha2.table", laid_livery_sha2_table), ("livery/sha2.start", laid_livery_sha2_start)] }
def HbsMakesSaid : Prop := hbsMakesRow.holds Tryz.pinned (OpenSpec.ofChange hbsMakesSpec)

/-- ITS FALSE NEIGHBOUR: 'it returns false'. Refute it at one input. -/
def hbsMakesWrong : ChangeSpec := { name := "hbsMakes", fn := fun _ => fun
  | [d1, d2, d3, d4, d5] => { results := [.lit (.bool false)], args := [d1, d2, d3, d4, d5] }
  | _ => none }
def HbsMakesWrongFalsely : Prop := hbsMakesRow.holds Tryz.pinned (OpenSpec.ofChange hbsMakesWrong)

/-- 'liverylaw12.HbsVerifies': WHATEVER THE INPUT: true; the input reads as it did. -/
def hbsVerifiesSpec : ChangeSpec := { name := "hbsVerifies", fn := fun _ => fun
  | [d1, d2, d3] => { results := [.lit (.bool true)], args := [d1, d2, d3] }
  | _ => none }
def hbsVerifiesRow : OpenClaim := { program := "ytffmejeeddplaaagreatdoor", sum := "17acb86018af0124aaa2a1ede256a648c8253dbe27ffcbbd65d4e475aaf7b412", func := "livery/liverylaw12.HbsVerifies", spec := "hbsVerifies", unfollowed := true, recurses := true, named := ["livery/sha2.start", "livery/sha2.table"], apart := false, laid := [("livery/sha2.table", laid_livery_sha2_table), ("livery/sha2.start", laid_livery_sha2_start)] }
def HbsVerifiesSaid : Prop := hbsVerifiesRow.holds Tryz.pinned (OpenSpec.ofChange hbsVerifiesSpec)

/-- ITS FALSE NEIGHBOUR: 'it returns false'. Refute it at one input. -/
def hbsVerifiesWrong : ChangeSpec := { name := "hbsVerifies", fn := fun _ => fun
  | [d1, d2, d3] => { results := [.lit (.bool false)], args := [d1, d2, d3] }
  | _ => none }
def HbsVerifiesWrongFalsely : Prop := hbsVerifiesRow.holds Tryz.pinned (OpenSpec.ofChange hbsVerifiesWrong)

/-- 'liverylaw12.HbsNumbers': WHATEVER THE INPUT: true; the input reads as it did. -/
def hbsNumbersSpec : ChangeSpec := { name := "hbsNumbers", fn := fun _ => fun
  | [d1, d2, d3, d4, d5, d6] => { results := [.lit (.bool true)], args := [d1, d2, d3, d4, d5, d6] }
  | _ => none }
def hbsNumbersRow : OpenClaim := { program := "ytffmejeeddplaaagreatdoor", sum := "17acb86018af0124aaa2a1ede256a648c8253dbe27ffcbbd65d4e475aaf7b412", func := "livery/liverylaw12.HbsNumbers", spec := "hbsNumbers", unfollowed := true, recurses := true, named := ["livery/sha2.start", "livery/sha2.table"], apart := false, laid := [("livery/sha2.table", laid_livery_sha2_table), ("livery/sha2.start", laid_livery_sha2_start)] }
def HbsNumbersSaid : Prop := hbsNumbersRow.holds Tryz.pinned (OpenSpec.ofChange hbsNumbersSpec)

/-- ITS FALSE NEIGHBOUR: 'it returns false'. Refute it at one input. -/
def hbsNumbersWrong : ChangeSpec := { name := "hbsNumbers", fn := fun _ => fun
  | [d1, d2, d3, d4, d5, d6] => { results := [.lit (.bool false)], args := [d1, d2, d3, d4, d5, d6] }
  | _ => none }
def HbsNumbersWrongFalsely : Prop := hbsNumbersRow.holds Tryz.pinned (OpenSpec.ofChange hbsNumbersWrong)

/-- 'liverylaw12.HbsRight': WHATEVER THE INPUT: true; the input reads as it did. -/
def hbsRightSpec : ChangeSpec := { name := "hbsRight", fn := fun _ => fun
  | [d1, d2, d3] => { results := [.lit (.bool true)], args := [d1, d2, d3] }
  | _ => none }
def hbsRightRow : OpenClaim := { program := "ytffmejeeddplaaagreatdoor", sum := "17acb86018af0124aaa2a1ede256a648c8253dbe27ffcbbd65d4e475aaf7b412", func := "livery/liverylaw12.HbsRight", spec := "hbsRight", unfollowed := true, recurses := true, named := ["livery/sha2.start", "livery/sha2.table"], apart := false, laid := [("livery/sha2.table", laid_livery_sha2_table), ("livery/sha2.start", laid_livery_sha2_start)] }
def HbsRightSaid : Prop := hbsRightRow.holds Tryz.pinned (OpenSpec.ofChange hbsRightSpec)

/-- ITS FALSE NEIGHBOUR: 'it returns false'. Refute it at one input. -/
def hbsRightWrong : ChangeSpec := { name := "hbsRight", fn := fun _ => fun
  | [d1, d2, d3] => { results := [.lit (.bool false)], args := [d1, d2, d3] }
  | _ => none }
def HbsRightWrongFalsely : Prop := hbsRightRow.holds Tryz.pinned (OpenSpec.ofChange hbsRightWrong)

/- THE SECOND FORM. 'bulk': how many values and letters a reading holds, each counted each time it is reached (what is shared counts as often as it is met; a slice's spare places count too). A statement '..UptoSaid' is the law's where the arguments, and the package variables that the reading takes, are together of bulk at most 1048576: NARROWER than '..Said'. Prove '..Said' where nothing that the law and all that it calls make is longer than what came in: it says more and counts as full. Else prove '..UptoSaid'. A law counts once. -/
mutual
def uptoBulk {H : Type} : DataW H → Nat
  | .lit (.string bytes) => bytes.length + 1
  | .lit _ => 1
  | .nil => 1
  | .ptr d => uptoBulk d + 1
  | .slice elems spare => uptoBulkAll elems + uptoBulkAll spare + 1
  | .agg parts => uptoBulkAll parts + 1
  | .iface _ d => uptoBulk d + 1
  | .map entries => uptoBulkEntries entries + 1
  | .held _ => 1
def uptoBulkAll {H : Type} : List (DataW H) → Nat
  | [] => 0
  | d :: r => uptoBulk d + uptoBulkAll r
def uptoBulkEntries {H : Type} : List (Lit × DataW H) → Nat
  | [] => 0
  | x :: r => uptoBulkEntry x + uptoBulkEntries r
def uptoBulkEntry {H : Type} : Lit × DataW H → Nat
  | (.string bytes, d) => bytes.length + uptoBulk d + 1
  | (_, d) => uptoBulk d + 1
 end
def uptoSmall : (H : Type) → List (DataW H) → Bool := fun _ ds => decide (uptoBulkAll ds ≤ 1048576)
def OpenSpec.upto (s : _root_.Go.ChangeSpec) : _root_.Go.OpenSpec := { _root_.Go.OpenSpec.ofChange s with cond := some uptoSmall }

/-- 'liverylaw12.HbsSigns', WHERE WHAT IT READS IS OF BULK AT MOST 1048576: true; the input reads as it did. -/
def hbsSignsUptoRow : OpenClaim := { program := "ytffmejeeddplaaagreatdoor", sum := "17acb86018af0124aaa2a1ede256a648c8253dbe27ffcbbd65d4e475aaf7b412", func := "livery/liverylaw12.HbsSigns", spec := "hbsSigns", unfollowed := true, recurses := true, named := ["livery/sha2.start", "livery/sha2.table"], apart := false, laid := [("livery/sha2.table", laid_livery_sha2_table), ("livery/sha2.start", laid_livery_sha2_start)], narrowed := true }
def HbsSignsUptoSaid : Prop := hbsSignsUptoRow.holds Tryz.pinned (OpenSpec.upto hbsSignsSpec)

/-- 'liverylaw12.HbsBytes', WHERE WHAT IT READS IS OF BULK AT MOST 1048576: true; the input reads as it did. -/
def hbsBytesUptoRow : OpenClaim := { program := "ytffmejeeddplaaagreatdoor", sum := "17acb86018af0124aaa2a1ede256a648c8253dbe27ffcbbd65d4e475aaf7b412", func := "livery/liverylaw12.HbsBytes", spec := "hbsBytes", unfollowed := true, recurses := true, named := ["livery/sha2.start", "livery/sha2.table"], apart := false, laid := [("livery/sha2.table", laid_livery_sha2_table), ("livery/sha2.start", laid_livery_sha2_start)], narrowed := true }
def HbsBytesUptoSaid : Prop := hbsBytesUptoRow.holds Tryz.pinned (OpenSpec.upto hbsBytesSpec)

/-- 'liverylaw09.HssPublics', WHERE WHAT IT READS IS OF BULK AT MOST 1048576: true; the input reads as it did. -/
def hssPublicsUptoRow : OpenClaim := { program := "ytffmejeeddplaaagreatdoor", sum := "17acb86018af0124aaa2a1ede256a648c8253dbe27ffcbbd65d4e475aaf7b412", func := "livery/liverylaw09.HssPublics", spec := "hssPublics", unfollowed := true, recurses := true, named := ["livery/sha2.start", "livery/sha2.table"], apart := false, laid := [("livery/sha2.table", laid_livery_sha2_table), ("livery/sha2.start", laid_livery_sha2_start)], narrowed := true }
def HssPublicsUptoSaid : Prop := hssPublicsUptoRow.holds Tryz.pinned (OpenSpec.upto hssPublicsSpec)

/-- 'liverylaw09.HssProves', WHERE WHAT IT READS IS OF BULK AT MOST 1048576: true; the input reads as it did. -/
def hssProvesUptoRow : OpenClaim := { program := "ytffmejeeddplaaagreatdoor", sum := "17acb86018af0124aaa2a1ede256a648c8253dbe27ffcbbd65d4e475aaf7b412", func := "livery/liverylaw09.HssProves", spec := "hssProves", named := ["livery/sha2.start", "livery/sha2.table"], apart := false, laid := [("livery/sha2.table", laid_livery_sha2_table), ("livery/sha2.start", laid_livery_sha2_start)], narrowed := true }
def HssProvesUptoSaid : Prop := hssProvesUptoRow.holds Tryz.pinned (OpenSpec.upto hssProvesSpec)

/-- 'liverylaw09.HssSigns', WHERE WHAT IT READS IS OF BULK AT MOST 1048576: true; the input reads as it did. -/
def hssSignsUptoRow : OpenClaim := { program := "ytffmejeeddplaaagreatdoor", sum := "17acb86018af0124aaa2a1ede256a648c8253dbe27ffcbbd65d4e475aaf7b412", func := "livery/liverylaw09.HssSigns", spec := "hssSigns", unfollowed := true, recurses := true, named := ["livery/sha2.start", "livery/sha2.table"], apart := false, laid := [("livery/sha2.table", laid_livery_sha2_table), ("livery/sha2.start", laid_livery_sha2_start)], narrowed := true }
def HssSignsUptoSaid : Prop := hssSignsUptoRow.holds Tryz.pinned (OpenSpec.upto hssSignsSpec)

/-- 'liverylaw09.HssChild', WHERE WHAT IT READS IS OF BULK AT MOST 1048576: true; the input reads as it did. -/
def hssChildUptoRow : OpenClaim := { program := "ytffmejeeddplaaagreatdoor", sum := "17acb86018af0124aaa2a1ede256a648c8253dbe27ffcbbd65d4e475aaf7b412", func := "livery/liverylaw09.HssChild", spec := "hssChild", unfollowed := true, recurses := true, named := ["livery/sha2.start", "livery/sha2.table"], apart := false, laid := [("livery/sha2.table", laid_livery_sha2_table), ("livery/sha2.start", laid_livery_sha2_start)], narrowed := true }
def HssChildUptoSaid : Prop := hssChildUptoRow.holds Tryz.pinned (OpenSpec.upto hssChildSpec)

/-- 'liverylaw09.HssOwn', WHERE WHAT IT READS IS OF BULK AT MOST 1048576: true; the input reads as it did. -/
def hssOwnUptoRow : OpenClaim := { program := "ytffmejeeddplaaagreatdoor", sum := "17acb86018af0124aaa2a1ede256a648c8253dbe27ffcbbd65d4e475aaf7b412", func := "livery/liverylaw09.HssOwn", spec := "hssOwn", unfollowed := true, recurses := true, named := ["livery/sha2.start", "livery/sha2.table"], apart := false, laid := [("livery/sha2.table", laid_livery_sha2_table), ("livery/sha2.start", laid_livery_sha2_start)], narrowed := true }
def HssOwnUptoSaid : Prop := hssOwnUptoRow.holds Tryz.pinned (OpenSpec.upto hssOwnSpec)

/-- 'liverylaw12.HbsMakes', WHERE WHAT IT READS IS OF BULK AT MOST 1048576: true; the input reads as it did. -/
def hbsMakesUptoRow : OpenClaim := { program := "ytffmejeeddplaaagreatdoor", sum := "17acb86018af0124aaa2a1ede256a648c8253dbe27ffcbbd65d4e475aaf7b412", func := "livery/liverylaw12.HbsMakes", spec := "hbsMakes", unfollowed := true, recurses := true, named := ["livery/sha2.start", "livery/sha2.table"], apart := false, laid := [("livery/sha2.table", laid_livery_sha2_table), ("livery/sha2.start", laid_livery_sha2_start)], narrowed := true }
def HbsMakesUptoSaid : Prop := hbsMakesUptoRow.holds Tryz.pinned (OpenSpec.upto hbsMakesSpec)

/-- 'liverylaw12.HbsVerifies', WHERE WHAT IT READS IS OF BULK AT MOST 1048576: true; the input reads as it did. -/
def hbsVerifiesUptoRow : OpenClaim := { program := "ytffmejeeddplaaagreatdoor", sum := "17acb86018af0124aaa2a1ede256a648c8253dbe27ffcbbd65d4e475aaf7b412", func := "livery/liverylaw12.HbsVerifies", spec := "hbsVerifies", unfollowed := true, recurses := true, named := ["livery/sha2.start", "livery/sha2.table"], apart := false, laid := [("livery/sha2.table", laid_livery_sha2_table), ("livery/sha2.start", laid_livery_sha2_start)], narrowed := true }
def HbsVerifiesUptoSaid : Prop := hbsVerifiesUptoRow.holds Tryz.pinned (OpenSpec.upto hbsVerifiesSpec)

/-- 'liverylaw12.HbsNumbers', WHERE WHAT IT READS IS OF BULK AT MOST 1048576: true; the input reads as it did. -/
def hbsNumbersUptoRow : OpenClaim := { program := "ytffmejeeddplaaagreatdoor", sum := "17acb86018af0124aaa2a1ede256a648c8253dbe27ffcbbd65d4e475aaf7b412", func := "livery/liverylaw12.HbsNumbers", spec := "hbsNumbers", unfollowed := true, recurses := true, named := ["livery/sha2.start", "livery/sha2.table"], apart := false, laid := [("livery/sha2.table", laid_livery_sha2_table), ("livery/sha2.start", laid_livery_sha2_start)], narrowed := true }
def HbsNumbersUptoSaid : Prop := hbsNumbersUptoRow.holds Tryz.pinned (OpenSpec.upto hbsNumbersSpec)

/-- 'liverylaw12.HbsRight', WHERE WHAT IT READS IS OF BULK AT MOST 1048576: true; the input reads as it did. -/
def hbsRightUptoRow : OpenClaim := { program := "ytffmejeeddplaaagreatdoor", sum := "17acb86018af0124aaa2a1ede256a648c8253dbe27ffcbbd65d4e475aaf7b412", func := "livery/liverylaw12.HbsRight", spec := "hbsRight", unfollowed := true, recurses := true, named := ["livery/sha2.start", "livery/sha2.table"], apart := false, laid := [("livery/sha2.table", laid_livery_sha2_table), ("livery/sha2.start", laid_livery_sha2_start)], narrowed := true }
def HbsRightUptoSaid : Prop := hbsRightUptoRow.holds Tryz.pinned (OpenSpec.upto hbsRightSpec)

end Rows
end Go.Proofs.YtffmejeeddplaaaGreatDoor
