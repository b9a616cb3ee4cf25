/-
  NARROWER THAN 'FOR EVERY INPUT', by the rows' own cells (each row's printed sentence says how): XmssLeaves: laid · XmssUp: laid · XmssTrees: laid · XmssSigns: laid · XmssGrows: laid · XmssProves: laid · XmssOwn: laid.
  DERIVED. THE GIVEN ROWS OF THIS SEAT. 7 by the template 'for every input the law returns true; each argument reads behind the call as it read before'; 0 by the template 'total and deterministic' (their statements: YtijhplgdhjkdpaaGreatDoorTotals.lean).
  GIVEN WITH THE SEED: the statements are not yours to turn. If you find one false, say at which input.
  Laid BY PROGRAM, IN A SANDBOX (cutbox-rows.mjs): the forced cells as the released guide's own fill.sh prints them over the translation 8550f90527685566… (all of the seat's roots in one cut). By AI agents, Wed Nov 11 2026. No macro, syntax, notation, axiom, sorry.
-/
import Derived.Test.YtijhplgdhjkdpaaGreatDoorChecked
import GoSem.Claim
import GoSem.ClaimJoined
import GoSem.ClaimMapViews
import Derived.JoinedTies
import Derived.KernelRfl
namespace Go.Proofs.YtijhplgdhjkdpaaGreatDoor
/- THE CELL 'sum', in the pinned program and in every row, IS THE sha256 OF THE DUMP (.gsa) THAT YtijhplgdhjkdpaaGreatDoorProg.lean LOADS. Nothing in Lean hashes anything: it is a label: what it is worth is what the hold of that sum in a sandbox is worth. -/
noncomputable def Tryz.pinned : Pinned := { name := "ytijhplgdhjkdpaagreatdoor", sum := "8550f90527685566dd6360bf3f3ba8eb5eca2ad594f86394f7e38b8dbd74b314", checked := Tryz.checked }
namespace Rows
def none {H : Type} : Left H := { results := [], args := [] }

/- WHAT THE LISTED PACKAGE-LEVEL VARIABLES READ AS WHEN THE CALL BEGINS. Each datum BY PROGRAM (the guide's laid-datum.mjs) off the statement by which the dump's own 'gosem.cut.vars' lays the variable. In a bare row this is a premise. The card (YtijhplgdhjkdpaaGreatDoorCards.lean) ties it to the program's text. -/
def laid_livery_sha2_table {H : Type} : DataW H := .agg [.lit (.int .u32 1116352408), .lit (.int .u32 1899447441), .lit (.int .u32 3049323471), .lit (.int .u32 3921009573), .lit (.int .u32 961987163), .lit (.int .u32 1508970993), .lit (.int .u32 2453635748), .lit (.int .u32 2870763221), .lit (.int .u32 3624381080), .lit (.int .u32 310598401), .lit (.int .u32 607225278), .lit (.int .u32 1426881987), .lit (.int .u32 1925078388), .lit (.int .u32 2162078206), .lit (.int .u32 2614888103), .lit (.int .u32 3248222580), .lit (.int .u32 3835390401), .lit (.int .u32 4022224774), .lit (.int .u32 264347078), .lit (.int .u32 604807628), .lit (.int .u32 770255983), .lit (.int .u32 1249150122), .lit (.int .u32 1555081692), .lit (.int .u32 1996064986), .lit (.int .u32 2554220882), .lit (.int .u32 2821834349), .lit (.int .u32 2952996808), .lit (.int .u32 3210313671), .lit (.int .u32 3336571891), .lit (.int .u32 3584528711), .lit (.int .u32 113926993), .lit (.int .u32 338241895), .lit (.int .u32 666307205), .lit (.int .u32 773529912), .lit (.int .u32 1294757372), .lit (.int .u32 1396182291), .lit (.int .u32 1695183700), .lit (.int .u32 1986661051), .lit (.int .u32 2177026350), .lit (.int .u32 2456956037), .lit (.int .u32 2730485921), .lit (.int .u32 2820302411), .lit (.int .u32 3259730800), .lit (.int .u32 3345764771), .lit (.int .u32 3516065817), .lit (.int .u32 3600352804), .lit (.int .u32 4094571909), .lit (.int .u32 275423344), .lit (.int .u32 430227734), .lit (.int .u32 506948616), .lit (.int .u32 659060556), .lit (.int .u32 883997877), .lit (.int .u32 958139571), .lit (.int .u32 1322822218), .lit (.int .u32 1537002063), .lit (.int .u32 1747873779), .lit (.int .u32 1955562222), .lit (.int .u32 2024104815), .lit (.int .u32 2227730452), .lit (.int .u32 2361852424), .lit (.int .u32 2428436474), .lit (.int .u32 2756734187), .lit (.int .u32 3204031479), .lit (.int .u32 3329325298)]
def laid_livery_sha2_start {H : Type} : DataW H := .agg [.lit (.int .u32 1779033703), .lit (.int .u32 3144134277), .lit (.int .u32 1013904242), .lit (.int .u32 2773480762), .lit (.int .u32 1359893119), .lit (.int .u32 2600822924), .lit (.int .u32 528734635), .lit (.int .u32 1541459225)]

/-- 'liverylaw11.XmssLeaves': WHATEVER THE INPUT: true; the input reads as it did. -/
def xmssLeavesSpec : ChangeSpec := { name := "xmssLeaves", fn := fun _ => fun
  | [d1, d2, d3] => { results := [.lit (.bool true)], args := [d1, d2, d3] }
  | _ => none }
def xmssLeavesRow : OpenClaim := { program := "ytijhplgdhjkdpaagreatdoor", sum := "8550f90527685566dd6360bf3f3ba8eb5eca2ad594f86394f7e38b8dbd74b314", func := "livery/liverylaw11.XmssLeaves", spec := "xmssLeaves", unfollowed := true, recurses := true, named := ["livery/sha2.start", "livery/sha2.table"], apart := false, laid := [("livery/sha2.table", laid_livery_sha2_table), ("livery/sha2.start", laid_livery_sha2_start)] }
def XmssLeavesSaid : Prop := xmssLeavesRow.holds Tryz.pinned (OpenSpec.ofChange xmssLeavesSpec)

/-- ITS FALSE NEIGHBOUR: 'it returns false'. Refute it at one input. -/
def xmssLeavesWrong : ChangeSpec := { name := "xmssLeaves", fn := fun _ => fun
  | [d1, d2, d3] => { results := [.lit (.bool false)], args := [d1, d2, d3] }
  | _ => none }
def XmssLeavesWrongFalsely : Prop := xmssLeavesRow.holds Tryz.pinned (OpenSpec.ofChange xmssLeavesWrong)

/-- 'liverylaw11.XmssUp': WHATEVER THE INPUT: true; the input reads as it did. -/
def xmssUpSpec : ChangeSpec := { name := "xmssUp", fn := fun _ => fun
  | [d1, d2, d3] => { results := [.lit (.bool true)], args := [d1, d2, d3] }
  | _ => none }
def xmssUpRow : OpenClaim := { program := "ytijhplgdhjkdpaagreatdoor", sum := "8550f90527685566dd6360bf3f3ba8eb5eca2ad594f86394f7e38b8dbd74b314", func := "livery/liverylaw11.XmssUp", spec := "xmssUp", unfollowed := true, recurses := true, named := ["livery/sha2.start", "livery/sha2.table"], apart := false, laid := [("livery/sha2.table", laid_livery_sha2_table), ("livery/sha2.start", laid_livery_sha2_start)] }
def XmssUpSaid : Prop := xmssUpRow.holds Tryz.pinned (OpenSpec.ofChange xmssUpSpec)

/-- ITS FALSE NEIGHBOUR: 'it returns false'. Refute it at one input. -/
def xmssUpWrong : ChangeSpec := { name := "xmssUp", fn := fun _ => fun
  | [d1, d2, d3] => { results := [.lit (.bool false)], args := [d1, d2, d3] }
  | _ => none }
def XmssUpWrongFalsely : Prop := xmssUpRow.holds Tryz.pinned (OpenSpec.ofChange xmssUpWrong)

/-- 'liverylaw11.XmssTrees': WHATEVER THE INPUT: true; the input reads as it did. -/
def xmssTreesSpec : ChangeSpec := { name := "xmssTrees", fn := fun _ => fun
  | [d1, d2, d3] => { results := [.lit (.bool true)], args := [d1, d2, d3] }
  | _ => none }
def xmssTreesRow : OpenClaim := { program := "ytijhplgdhjkdpaagreatdoor", sum := "8550f90527685566dd6360bf3f3ba8eb5eca2ad594f86394f7e38b8dbd74b314", func := "livery/liverylaw11.XmssTrees", spec := "xmssTrees", unfollowed := true, recurses := true, named := ["livery/sha2.start", "livery/sha2.table"], apart := false, laid := [("livery/sha2.table", laid_livery_sha2_table), ("livery/sha2.start", laid_livery_sha2_start)] }
def XmssTreesSaid : Prop := xmssTreesRow.holds Tryz.pinned (OpenSpec.ofChange xmssTreesSpec)

/-- ITS FALSE NEIGHBOUR: 'it returns false'. Refute it at one input. -/
def xmssTreesWrong : ChangeSpec := { name := "xmssTrees", fn := fun _ => fun
  | [d1, d2, d3] => { results := [.lit (.bool false)], args := [d1, d2, d3] }
  | _ => none }
def XmssTreesWrongFalsely : Prop := xmssTreesRow.holds Tryz.pinned (OpenSpec.ofChange xmssTreesWrong)

/-- 'liverylaw11.XmssSigns': WHATEVER THE INPUT: true; the input reads as it did. -/
def xmssSignsSpec : ChangeSpec := { name := "xmssSigns", fn := fun _ => fun
  | [d1, d2, d3, d4] => { results := [.lit (.bool true)], args := [d1, d2, d3, d4] }
  | _ => none }
def xmssSignsRow : OpenClaim := { program := "ytijhplgdhjkdpaagreatdoor", sum := "8550f90527685566dd6360bf3f3ba8eb5eca2ad594f86394f7e38b8dbd74b314", func := "livery/liverylaw11.XmssSigns", spec := "xmssSigns", unfollowed := true, recurses := true, named := ["livery/sha2.start", "livery/sha2.table"], apart := false, laid := [("livery/sha2.table", laid_livery_sha2_table), ("livery/sha2.start", laid_livery_sha2_start)] }
def XmssSignsSaid : Prop := xmssSignsRow.holds Tryz.pinned (OpenSpec.ofChange xmssSignsSpec)

/-- ITS FALSE NEIGHBOUR: 'it returns false'. Refute it at one input. -/
def xmssSignsWrong : ChangeSpec := { name := "xmssSigns", fn := fun _ => fun
  | [d1, d2, d3, d4] => { results := [.lit (.bool false)], args := [d1, d2, d3, d4] }
  | _ => none }
def XmssSignsWrongFalsely : Prop := xmssSignsRow.holds Tryz.pinned (OpenSpec.ofChange xmssSignsWrong)

/-- 'liverylaw11.XmssGrows': WHATEVER THE INPUT: true; the input reads as it did. -/
def xmssGrowsSpec : ChangeSpec := { name := "xmssGrows", fn := fun _ => fun
  | [d1, d2] => { results := [.lit (.bool true)], args := [d1, d2] }
  | _ => none }
def xmssGrowsRow : OpenClaim := { program := "ytijhplgdhjkdpaagreatdoor", sum := "8550f90527685566dd6360bf3f3ba8eb5eca2ad594f86394f7e38b8dbd74b314", func := "livery/liverylaw11.XmssGrows", spec := "xmssGrows", unfollowed := true, recurses := true, named := ["livery/sha2.start", "livery/sha2.table"], apart := false, laid := [("livery/sha2.table", laid_livery_sha2_table), ("livery/sha2.start", laid_livery_sha2_start)] }
def XmssGrowsSaid : Prop := xmssGrowsRow.holds Tryz.pinned (OpenSpec.ofChange xmssGrowsSpec)

/-- ITS FALSE NEIGHBOUR: 'it returns false'. Refute it at one input. -/
def xmssGrowsWrong : ChangeSpec := { name := "xmssGrows", fn := fun _ => fun
  | [d1, d2] => { results := [.lit (.bool false)], args := [d1, d2] }
  | _ => none }
def XmssGrowsWrongFalsely : Prop := xmssGrowsRow.holds Tryz.pinned (OpenSpec.ofChange xmssGrowsWrong)

/-- 'liverylaw11.XmssProves': WHATEVER THE INPUT: true; the input reads as it did. -/
def xmssProvesSpec : ChangeSpec := { name := "xmssProves", fn := fun _ => fun
  | [d1, d2, d3, d4] => { results := [.lit (.bool true)], args := [d1, d2, d3, d4] }
  | _ => none }
def xmssProvesRow : OpenClaim := { program := "ytijhplgdhjkdpaagreatdoor", sum := "8550f90527685566dd6360bf3f3ba8eb5eca2ad594f86394f7e38b8dbd74b314", func := "livery/liverylaw11.XmssProves", spec := "xmssProves", unfollowed := true, recurses := true, named := ["livery/sha2.start", "livery/sha2.table"], apart := false, laid := [("livery/sha2.table", laid_livery_sha2_table), ("livery/sha2.start", laid_livery_sha2_start)] }
def XmssProvesSaid : Prop := xmssProvesRow.holds Tryz.pinned (OpenSpec.ofChange xmssProvesSpec)

/-- ITS FALSE NEIGHBOUR: 'it returns false'. Refute it at one input. -/
def xmssProvesWrong : ChangeSpec := { name := "xmssProves", fn := fun _ => fun
  | [d1, d2, d3, d4] => { results := [.lit (.bool false)], args := [d1, d2, d3, d4] }
  | _ => none }
def XmssProvesWrongFalsely : Prop := xmssProvesRow.holds Tryz.pinned (OpenSpec.ofChange xmssProvesWrong)

/-- 'liverylaw11.XmssOwn': WHATEVER THE INPUT: true; the input reads as it did. -/
def xmssOwnSpec : ChangeSpec := { name := "xmssOwn", fn := fun _ => fun
  | [d1, d2, d3, d4] => { results := [.lit (.bool true)], args := [d1, d2, d3, d4] }
  | _ => none }
def xmssOwnRow : OpenClaim := { program := "ytijhplgdhjkdpaagreatdoor", sum := "8550f90527685566dd6360bf3f3ba8eb5eca2ad594f86394f7e38b8dbd74b314", func := "livery/liverylaw11.XmssOwn", spec := "xmssOwn", unfollowed := true, recurses := true, named := ["livery/sha2.start", "livery/sha2.table"], apart := false, laid := [("livery/sha2.table", laid_livery_sha2_table), ("livery/sha2.start", laid_livery_sha2_start)] }
def XmssOwnSaid : Prop := xmssOwnRow.holds Tryz.pinned (OpenSpec.ofChange xmssOwnSpec)

/-- ITS FALSE NEIGHBOUR: 'it returns false'. Refute it at one input. -/
def xmssOwnWrong : ChangeSpec := { name := "xmssOwn", fn := fun _ => fun
  | [d1, d2, d3, d4] => { results := [.lit (.bool false)], args := [d1, d2, d3, d4] }
  | _ => none }
def XmssOwnWrongFalsely : Prop := xmssOwnRow.holds Tryz.pinned (OpenSpec.ofChange xmssOwnWrong)

/- THE SECOND FORM. 'bulk': how many values and letters a reading holds, each counted each time it is reached (what is shared counts as often as it is met; a slice's spare places count too). A statement '..UptoSaid' is the law's where the arguments, and the package variables that the reading takes, are together of bulk at most 1048576: NARROWER than '..Said'. Prove '..Said' where nothing that the law and all that it calls make is longer than what came in: it says more and counts as full. Else prove '..UptoSaid'. A law counts once. -/
mutual
def uptoBulk {H : Type} : DataW H → Nat
  | .lit (.string bytes) => bytes.length + 1
  | .lit _ => 1
  | .nil => 1
  | .ptr d => uptoBulk d + 1
  | .slice elems spare => uptoBulkAll elems + uptoBulkAll spare + 1
  | .agg parts => uptoBulkAll parts + 1
  | .iface _ d => uptoBulk d + 1
  | .map entries => uptoBulkEntries entries + 1
  | .held _ => 1
def uptoBulkAll {H : Type} : List (DataW H) → Nat
  | [] => 0
  | d :: r => uptoBulk d + uptoBulkAll r
def uptoBulkEntries {H : Type} : List (Lit × DataW H) → Nat
  | [] => 0
  | x :: r => uptoBulkEntry x + uptoBulkEntries r
def uptoBulkEntry {H : Type} : Lit × DataW H → Nat
  | (.string bytes, d) => bytes.length + uptoBulk d + 1
  | (_, d) => uptoBulk d + 1
 end
def uptoSmall : (H : Type) → List (DataW H) → Bool := fun _ ds => decide (uptoBulkAll ds ≤ 1048576)
def OpenSpec.upto (s : _root_.Go.ChangeSpec) : _root_.Go.OpenSpec := { _root_.Go.OpenSpec.ofChange s with cond := some uptoSmall }

/-- 'liverylaw11.XmssLeaves', WHERE WHAT IT READS IS OF BULK AT MOST 1048576: true; the input reads as it did. -/
def xmssLeavesUptoRow : OpenClaim := { program := "ytijhplgdhjkdpaagreatdoor", sum := "8550f90527685566dd6360bf3f3ba8eb5eca2ad594f86394f7e38b8dbd74b314", func := "livery/liverylaw11.XmssLeaves", spec := "xmssLeaves", unfollowed := true, recurses := true, named := ["livery/sha2.start", "livery/sha2.table"], apart := false, laid := [("livery/sha2.table", laid_livery_sha2_table), ("livery/sha2.start", laid_livery_sha2_start)], narrowed := true }
def XmssLeavesUptoSaid : Prop := xmssLeavesUptoRow.holds Tryz.pinned (OpenSpec.upto xmssLeavesSpec)

/-- 'liverylaw11.XmssUp', WHERE WHAT IT READS IS OF BULK AT MOST 1048576: true; the input reads as it did. -/
def xmssUpUptoRow : OpenClaim := { program := "ytijhplgdhjkdpaagreatdoor", sum := "8550f90527685566dd6360bf3f3ba8eb5eca2ad594f86394f7e38b8dbd74b314", func := "livery/liverylaw11.XmssUp", spec := "xmssUp", unfollowed := true, recurses := true, named := ["livery/sha2.start", "livery/sha2.table"], apart := false, laid := [("livery/sha2.table", laid_livery_sha2_table), ("livery/sha2.start", laid_livery_sha2_start)], narrowed := true }
def XmssUpUptoSaid : Prop := xmssUpUptoRow.holds Tryz.pinned (OpenSpec.upto xmssUpSpec)

/-- 'liverylaw11.XmssTrees', WHERE WHAT IT READS IS OF BULK AT MOST 1048576: true; the input reads as it did. -/
def xmssTreesUptoRow : OpenClaim := { program := "ytijhplgdhjkdpaagreatdoor", sum := "8550f90527685566dd6360bf3f3ba8eb5eca2ad594f86394f7e38b8dbd74b314", func := "livery/liverylaw11.XmssTrees", spec := "xmssTrees", unfollowed := true, recurses := true, named := ["livery/sha2.start", "livery/sha2.table"], apart := false, laid := [("livery/sha2.table", laid_livery_sha2_table), ("livery/sha2.start", laid_livery_sha2_start)], narrowed := true }
def XmssTreesUptoSaid : Prop := xmssTreesUptoRow.holds Tryz.pinned (OpenSpec.upto xmssTreesSpec)

/-- 'liverylaw11.XmssSigns', WHERE WHAT IT READS IS OF BULK AT MOST 1048576: true; the input reads as it did. -/
def xmssSignsUptoRow : OpenClaim := { program := "ytijhplgdhjkdpaagreatdoor", sum := "8550f90527685566dd6360bf3f3ba8eb5eca2ad594f86394f7e38b8dbd74b314", func := "livery/liverylaw11.XmssSigns", spec := "xmssSigns", unfollowed := true, recurses := true, named := ["livery/sha2.start", "livery/sha2.table"], apart := false, laid := [("livery/sha2.table", laid_livery_sha2_table), ("livery/sha2.start", laid_livery_sha2_start)], narrowed := true }
def XmssSignsUptoSaid : Prop := xmssSignsUptoRow.holds Tryz.pinned (OpenSpec.upto xmssSignsSpec)

/-- 'liverylaw11.XmssGrows', WHERE WHAT IT READS IS OF BULK AT MOST 1048576: true; the input reads as it did. -/
def xmssGrowsUptoRow : OpenClaim := { program := "ytijhplgdhjkdpaagreatdoor", sum := "8550f90527685566dd6360bf3f3ba8eb5eca2ad594f86394f7e38b8dbd74b314", func := "livery/liverylaw11.XmssGrows", spec := "xmssGrows", unfollowed := true, recurses := true, named := ["livery/sha2.start", "livery/sha2.table"], apart := false, laid := [("livery/sha2.table", laid_livery_sha2_table), ("livery/sha2.start", laid_livery_sha2_start)], narrowed := true }
def XmssGrowsUptoSaid : Prop := xmssGrowsUptoRow.holds Tryz.pinned (OpenSpec.upto xmssGrowsSpec)

/-- 'liverylaw11.XmssProves', WHERE WHAT IT READS IS OF BULK AT MOST 1048576: true; the input reads as it did. -/
def xmssProvesUptoRow : OpenClaim := { program := "ytijhplgdhjkdpaagreatdoor", sum := "8550f90527685566dd6360bf3f3ba8eb5eca2ad594f86394f7e38b8dbd74b314", func := "livery/liverylaw11.XmssProves", spec := "xmssProves", unfollowed := true, recurses := true, named := ["livery/sha2.start", "livery/sha2.table"], apart := false, laid := [("livery/sha2.table", laid_livery_sha2_table), ("livery/sha2.start", laid_livery_sha2_start)], narrowed := true }
def XmssProvesUptoSaid : Prop := xmssProvesUptoRow.holds Tryz.pinned (OpenSpec.upto xmssProvesSpec)

/-- 'liverylaw11.XmssOwn', WHERE WHAT IT READS IS OF BULK AT MOST 1048576: true; the input reads as it did. -/
def xmssOwnUptoRow : OpenClaim := { program := "ytijhplgdhjkdpaagreatdoor", sum := "8550f90527685566dd6360bf3f3ba8eb5eca2ad594f86394f7e38b8dbd74b314", func := "livery/liverylaw11.XmssOwn", spec := "xmssOwn", unfollowed := true, recurses := true, named := ["livery/sha2.start", "livery/sha2.table"], apart := false, laid := [("livery/sha2.table", laid_livery_sha2_table), ("livery/sha2.start", laid_livery_sha2_start)], narrowed := true }
def XmssOwnUptoSaid : Prop := xmssOwnUptoRow.holds Tryz.pinned (OpenSpec.upto xmssOwnSpec)

end Rows
end Go.Proofs.YtijhplgdhjkdpaaGreatDoor
