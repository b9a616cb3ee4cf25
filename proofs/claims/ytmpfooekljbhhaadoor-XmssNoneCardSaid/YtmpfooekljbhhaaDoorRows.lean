/-
  NARROWER THAN 'FOR EVERY INPUT', by the rows' own cells (each row's printed sentence says how): XmssNodes: laid · WotsSteps: laid · WotsDigits: laid · WotsBelow: laid · WotsKeyed: laid · WotsOn: laid · XmssLtrees: laid · WotsCounts: laid · WotsPublic: laid · WotsSigns: laid · WotsVerifies: laid · XmssNone: laid.
  DERIVED. THE GIVEN ROWS OF THIS SEAT. 12 by the template 'for every input the law returns true; each argument reads behind the call as it read before'; 0 by the template 'total and deterministic' (their statements: YtmpfooekljbhhaaDoorTotals.lean).
  GIVEN WITH THE SEED: the statements are not yours to turn. If you find one false, say at which input.
  Laid BY PROGRAM, IN A SANDBOX (cutbox-rows.mjs): the forced cells as the released guide's own fill.sh prints them over the translation 31d0b49c7e897fdd… (all of the seat's roots in one cut). By AI agents, Wed Nov 11 2026. No macro, syntax, notation, axiom, sorry.
-/
import Derived.Test.YtmpfooekljbhhaaDoorChecked
import GoSem.Claim
import GoSem.ClaimJoined
import GoSem.ClaimMapViews
import Derived.JoinedTies
import Derived.KernelRfl
namespace Go.Proofs.YtmpfooekljbhhaaDoor
/- THE CELL 'sum', in the pinned program and in every row, IS THE sha256 OF THE DUMP (.gsa) THAT YtmpfooekljbhhaaDoorProg.lean LOADS. Nothing in Lean hashes anything: it is a label: what it is worth is what the hold of that sum in a sandbox is worth. -/
noncomputable def Tryd.pinned : Pinned := { name := "ytmpfooekljbhhaadoor", sum := "31d0b49c7e897fddfd019f96b71fafeeda117cabd4db3454faf5b3eeafab9c2f", checked := Tryd.checked }
namespace Rows
def none {H : Type} : Left H := { results := [], args := [] }

/- WHAT THE LISTED PACKAGE-LEVEL VARIABLES READ AS WHEN THE CALL BEGINS. Each datum BY PROGRAM (the guide's laid-datum.mjs) off the statement by which the dump's own 'gosem.cut.vars' lays the variable. In a bare row this is a premise. The card (YtmpfooekljbhhaaDoorCards.lean) ties it to the program's text. -/
def laid_livery_sha2_table {H : Type} : DataW H := .agg [.lit (.int .u32 1116352408), .lit (.int .u32 1899447441), .lit (.int .u32 3049323471), .lit (.int .u32 3921009573), .lit (.int .u32 961987163), .lit (.int .u32 1508970993), .lit (.int .u32 2453635748), .lit (.int .u32 2870763221), .lit (.int .u32 3624381080), .lit (.int .u32 310598401), .lit (.int .u32 607225278), .lit (.int .u32 1426881987), .lit (.int .u32 1925078388), .lit (.int .u32 2162078206), .lit (.int .u32 2614888103), .lit (.int .u32 3248222580), .lit (.int .u32 3835390401), .lit (.int .u32 4022224774), .lit (.int .u32 264347078), .lit (.int .u32 604807628), .lit (.int .u32 770255983), .lit (.int .u32 1249150122), .lit (.int .u32 1555081692), .lit (.int .u32 1996064986), .lit (.int .u32 2554220882), .lit (.int .u32 2821834349), .lit (.int .u32 2952996808), .lit (.int .u32 3210313671), .lit (.int .u32 3336571891), .lit (.int .u32 3584528711), .lit (.int .u32 113926993), .lit (.int .u32 338241895), .lit (.int .u32 666307205), .lit (.int .u32 773529912), .lit (.int .u32 1294757372), .lit (.int .u32 1396182291), .lit (.int .u32 1695183700), .lit (.int .u32 1986661051), .lit (.int .u32 2177026350), .lit (.int .u32 2456956037), .lit (.int .u32 2730485921), .lit (.int .u32 2820302411), .lit (.int .u32 3259730800), .lit (.int .u32 3345764771), .lit (.int .u32 3516065817), .lit (.int .u32 3600352804), .lit (.int .u32 4094571909), .lit (.int .u32 275423344), .lit (.int .u32 430227734), .lit (.int .u32 506948616), .lit (.int .u32 659060556), .lit (.int .u32 883997877), .lit (.int .u32 958139571), .lit (.int .u32 1322822218), .lit (.int .u32 1537002063), .lit (.int .u32 1747873779), .lit (.int .u32 1955562222), .lit (.int .u32 2024104815), .lit (.int .u32 2227730452), .lit (.int .u32 2361852424), .lit (.int .u32 2428436474), .lit (.int .u32 2756734187), .lit (.int .u32 3204031479), .lit (.int .u32 3329325298)]
def laid_livery_sha2_start {H : Type} : DataW H := .agg [.lit (.int .u32 1779033703), .lit (.int .u32 3144134277), .lit (.int .u32 1013904242), .lit (.int .u32 2773480762), .lit (.int .u32 1359893119), .lit (.int .u32 2600822924), .lit (.int .u32 528734635), .lit (.int .u32 1541459225)]

/-- 'liverylaw11.XmssNodes': WHATEVER THE INPUT: true; the input reads as it did. -/
def xmssNodesSpec : ChangeSpec := { name := "xmssNodes", fn := fun _ => fun
  | [d1, d2, d3, d4, d5] => { results := [.lit (.bool true)], args := [d1, d2, d3, d4, d5] }
  | _ => none }
def xmssNodesRow : OpenClaim := { program := "ytmpfooekljbhhaadoor", sum := "31d0b49c7e897fddfd019f96b71fafeeda117cabd4db3454faf5b3eeafab9c2f", func := "livery/liverylaw11.XmssNodes", spec := "xmssNodes", unfollowed := true, recurses := true, named := ["livery/sha2.start", "livery/sha2.table"], apart := false, laid := [("livery/sha2.table", laid_livery_sha2_table), ("livery/sha2.start", laid_livery_sha2_start)] }
def XmssNodesSaid : Prop := xmssNodesRow.holds Tryd.pinned (OpenSpec.ofChange xmssNodesSpec)

/-- ITS FALSE NEIGHBOUR: 'it returns false'. Refute it at one input. -/
def xmssNodesWrong : ChangeSpec := { name := "xmssNodes", fn := fun _ => fun
  | [d1, d2, d3, d4, d5] => { results := [.lit (.bool false)], args := [d1, d2, d3, d4, d5] }
  | _ => none }
def XmssNodesWrongFalsely : Prop := xmssNodesRow.holds Tryd.pinned (OpenSpec.ofChange xmssNodesWrong)

/-- 'liverylaw10.WotsSteps': WHATEVER THE INPUT: true; the input reads as it did. -/
def wotsStepsSpec : ChangeSpec := { name := "wotsSteps", fn := fun _ => fun
  | [d1, d2, d3, d4, d5, d6, d7] => { results := [.lit (.bool true)], args := [d1, d2, d3, d4, d5, d6, d7] }
  | _ => none }
def wotsStepsRow : OpenClaim := { program := "ytmpfooekljbhhaadoor", sum := "31d0b49c7e897fddfd019f96b71fafeeda117cabd4db3454faf5b3eeafab9c2f", func := "livery/liverylaw10.WotsSteps", spec := "wotsSteps", unfollowed := true, recurses := true, named := ["livery/sha2.start", "livery/sha2.table"], apart := false, laid := [("livery/sha2.table", laid_livery_sha2_table), ("livery/sha2.start", laid_livery_sha2_start)] }
def WotsStepsSaid : Prop := wotsStepsRow.holds Tryd.pinned (OpenSpec.ofChange wotsStepsSpec)

/-- ITS FALSE NEIGHBOUR: 'it returns false'. Refute it at one input. -/
def wotsStepsWrong : ChangeSpec := { name := "wotsSteps", fn := fun _ => fun
  | [d1, d2, d3, d4, d5, d6, d7] => { results := [.lit (.bool false)], args := [d1, d2, d3, d4, d5, d6, d7] }
  | _ => none }
def WotsStepsWrongFalsely : Prop := wotsStepsRow.holds Tryd.pinned (OpenSpec.ofChange wotsStepsWrong)

/-- 'liverylaw10.WotsDigits': WHATEVER THE INPUT: true; the input reads as it did. -/
def wotsDigitsSpec : ChangeSpec := { name := "wotsDigits", fn := fun _ => fun
  | [d1, d2] => { results := [.lit (.bool true)], args := [d1, d2] }
  | _ => none }
def wotsDigitsRow : OpenClaim := { program := "ytmpfooekljbhhaadoor", sum := "31d0b49c7e897fddfd019f96b71fafeeda117cabd4db3454faf5b3eeafab9c2f", func := "livery/liverylaw10.WotsDigits", spec := "wotsDigits", unfollowed := true, recurses := true, named := ["livery/sha2.start", "livery/sha2.table"], apart := false, laid := [("livery/sha2.table", laid_livery_sha2_table), ("livery/sha2.start", laid_livery_sha2_start)] }
def WotsDigitsSaid : Prop := wotsDigitsRow.holds Tryd.pinned (OpenSpec.ofChange wotsDigitsSpec)

/-- ITS FALSE NEIGHBOUR: 'it returns false'. Refute it at one input. -/
def wotsDigitsWrong : ChangeSpec := { name := "wotsDigits", fn := fun _ => fun
  | [d1, d2] => { results := [.lit (.bool false)], args := [d1, d2] }
  | _ => none }
def WotsDigitsWrongFalsely : Prop := wotsDigitsRow.holds Tryd.pinned (OpenSpec.ofChange wotsDigitsWrong)

/-- 'liverylaw10.WotsBelow': WHATEVER THE INPUT: true; the input reads as it did. -/
def wotsBelowSpec : ChangeSpec := { name := "wotsBelow", fn := fun _ => fun
  | [d1, d2, d3] => { results := [.lit (.bool true)], args := [d1, d2, d3] }
  | _ => none }
def wotsBelowRow : OpenClaim := { program := "ytmpfooekljbhhaadoor", sum := "31d0b49c7e897fddfd019f96b71fafeeda117cabd4db3454faf5b3eeafab9c2f", func := "livery/liverylaw10.WotsBelow", spec := "wotsBelow", unfollowed := true, recurses := true, named := ["livery/sha2.start", "livery/sha2.table"], apart := false, laid := [("livery/sha2.table", laid_livery_sha2_table), ("livery/sha2.start", laid_livery_sha2_start)] }
def WotsBelowSaid : Prop := wotsBelowRow.holds Tryd.pinned (OpenSpec.ofChange wotsBelowSpec)

/-- ITS FALSE NEIGHBOUR: 'it returns false'. Refute it at one input. -/
def wotsBelowWrong : ChangeSpec := { name := "wotsBelow", fn := fun _ => fun
  | [d1, d2, d3] => { results := [.lit (.bool false)], args := [d1, d2, d3] }
  | _ => none }
def WotsBelowWrongFalsely : Prop := wotsBelowRow.holds Tryd.pinned (OpenSpec.ofChange wotsBelowWrong)

/-- 'liverylaw10.WotsKeyed': WHATEVER THE INPUT: true; the input reads as it did. -/
def wotsKeyedSpec : ChangeSpec := { name := "wotsKeyed", fn := fun _ => fun
  | [d1, d2, d3, d4] => { results := [.lit (.bool true)], args := [d1, d2, d3, d4] }
  | _ => none }
def wotsKeyedRow : OpenClaim := { program := "ytmpfooekljbhhaadoor", sum := "31d0b49c7e897fddfd019f96b71fafeeda117cabd4db3454faf5b3eeafab9c2f", func := "livery/liverylaw10.WotsKeyed", spec := "wotsKeyed", unfollowed := true, recurses := true, named := ["livery/sha2.start", "livery/sha2.table"], apart := false, laid := [("livery/sha2.table", laid_livery_sha2_table), ("livery/sha2.start", laid_livery_sha2_start)] }
def WotsKeyedSaid : Prop := wotsKeyedRow.holds Tryd.pinned (OpenSpec.ofChange wotsKeyedSpec)

/-- ITS FALSE NEIGHBOUR: 'it returns false'. Refute it at one input. -/
def wotsKeyedWrong : ChangeSpec := { name := "wotsKeyed", fn := fun _ => fun
  | [d1, d2, d3, d4] => { results := [.lit (.bool false)], args := [d1, d2, d3, d4] }
  | _ => none }
def WotsKeyedWrongFalsely : Prop := wotsKeyedRow.holds Tryd.pinned (OpenSpec.ofChange wotsKeyedWrong)

/-- 'liverylaw10.WotsOn': WHATEVER THE INPUT: true; the input reads as it did. -/
def wotsOnSpec : ChangeSpec := { name := "wotsOn", fn := fun _ => fun
  | [d1, d2, d3, d4, d5] => { results := [.lit (.bool true)], args := [d1, d2, d3, d4, d5] }
  | _ => none }
def wotsOnRow : OpenClaim := { program := "ytmpfooekljbhhaadoor", sum := "31d0b49c7e897fddfd019f96b71fafeeda117cabd4db3454faf5b3eeafab9c2f", func := "livery/liverylaw10.WotsOn", spec := "wotsOn", unfollowed := true, recurses := true, named := ["livery/sha2.start", "livery/sha2.table"], apart := false, laid := [("livery/sha2.table", laid_livery_sha2_table), ("livery/sha2.start", laid_livery_sha2_start)] }
def WotsOnSaid : Prop := wotsOnRow.holds Tryd.pinned (OpenSpec.ofChange wotsOnSpec)

/-- ITS FALSE NEIGHBOUR: 'it returns false'. Refute it at one input. -/
def wotsOnWrong : ChangeSpec := { name := "wotsOn", fn := fun _ => fun
  | [d1, d2, d3, d4, d5] => { results := [.lit (.bool false)], args := [d1, d2, d3, d4, d5] }
  | _ => none }
def WotsOnWrongFalsely : Prop := wotsOnRow.holds Tryd.pinned (OpenSpec.ofChange wotsOnWrong)

/-- 'liverylaw11.XmssLtrees': WHATEVER THE INPUT: true; the input reads as it did. -/
def xmssLtreesSpec : ChangeSpec := { name := "xmssLtrees", fn := fun _ => fun
  | [d1, d2, d3, d4] => { results := [.lit (.bool true)], args := [d1, d2, d3, d4] }
  | _ => none }
def xmssLtreesRow : OpenClaim := { program := "ytmpfooekljbhhaadoor", sum := "31d0b49c7e897fddfd019f96b71fafeeda117cabd4db3454faf5b3eeafab9c2f", func := "livery/liverylaw11.XmssLtrees", spec := "xmssLtrees", unfollowed := true, recurses := true, named := ["livery/sha2.start", "livery/sha2.table"], apart := false, laid := [("livery/sha2.table", laid_livery_sha2_table), ("livery/sha2.start", laid_livery_sha2_start)] }
def XmssLtreesSaid : Prop := xmssLtreesRow.holds Tryd.pinned (OpenSpec.ofChange xmssLtreesSpec)

/-- ITS FALSE NEIGHBOUR: 'it returns false'. Refute it at one input. -/
def xmssLtreesWrong : ChangeSpec := { name := "xmssLtrees", fn := fun _ => fun
  | [d1, d2, d3, d4] => { results := [.lit (.bool false)], args := [d1, d2, d3, d4] }
  | _ => none }
def XmssLtreesWrongFalsely : Prop := xmssLtreesRow.holds Tryd.pinned (OpenSpec.ofChange xmssLtreesWrong)

/-- 'liverylaw10.WotsCounts': WHATEVER THE INPUT: true; the input reads as it did. -/
def wotsCountsSpec : ChangeSpec := { name := "wotsCounts", fn := fun _ => fun
  | [d1, d2, d3, d4, d5] => { results := [.lit (.bool true)], args := [d1, d2, d3, d4, d5] }
  | _ => none }
def wotsCountsRow : OpenClaim := { program := "ytmpfooekljbhhaadoor", sum := "31d0b49c7e897fddfd019f96b71fafeeda117cabd4db3454faf5b3eeafab9c2f", func := "livery/liverylaw10.WotsCounts", spec := "wotsCounts", unfollowed := true, recurses := true, named := ["livery/sha2.start", "livery/sha2.table"], apart := false, laid := [("livery/sha2.table", laid_livery_sha2_table), ("livery/sha2.start", laid_livery_sha2_start)] }
def WotsCountsSaid : Prop := wotsCountsRow.holds Tryd.pinned (OpenSpec.ofChange wotsCountsSpec)

/-- ITS FALSE NEIGHBOUR: 'it returns false'. Refute it at one input. -/
def wotsCountsWrong : ChangeSpec := { name := "wotsCounts", fn := fun _ => fun
  | [d1, d2, d3, d4, d5] => { results := [.lit (.bool false)], args := [d1, d2, d3, d4, d5] }
  | _ => none }
def WotsCountsWrongFalsely : Prop := wotsCountsRow.holds Tryd.pinned (OpenSpec.ofChange wotsCountsWrong)

/-- 'liverylaw10.WotsPublic': WHATEVER THE INPUT: true; the input reads as it did. -/
def wotsPublicSpec : ChangeSpec := { name := "wotsPublic", fn := fun _ => fun
  | [d1, d2, d3, d4] => { results := [.lit (.bool true)], args := [d1, d2, d3, d4] }
  | _ => none }
def wotsPublicRow : OpenClaim := { program := "ytmpfooekljbhhaadoor", sum := "31d0b49c7e897fddfd019f96b71fafeeda117cabd4db3454faf5b3eeafab9c2f", func := "livery/liverylaw10.WotsPublic", spec := "wotsPublic", unfollowed := true, recurses := true, named := ["livery/sha2.start", "livery/sha2.table"], apart := false, laid := [("livery/sha2.table", laid_livery_sha2_table), ("livery/sha2.start", laid_livery_sha2_start)] }
def WotsPublicSaid : Prop := wotsPublicRow.holds Tryd.pinned (OpenSpec.ofChange wotsPublicSpec)

/-- ITS FALSE NEIGHBOUR: 'it returns false'. Refute it at one input. -/
def wotsPublicWrong : ChangeSpec := { name := "wotsPublic", fn := fun _ => fun
  | [d1, d2, d3, d4] => { results := [.lit (.bool false)], args := [d1, d2, d3, d4] }
  | _ => none }
def WotsPublicWrongFalsely : Prop := wotsPublicRow.holds Tryd.pinned (OpenSpec.ofChange wotsPublicWrong)

/-- 'liverylaw10.WotsSigns': WHATEVER THE INPUT: true; the input reads as it did. -/
def wotsSignsSpec : ChangeSpec := { name := "wotsSigns", fn := fun _ => fun
  | [d1, d2, d3, d4, d5] => { results := [.lit (.bool true)], args := [d1, d2, d3, d4, d5] }
  | _ => none }
def wotsSignsRow : OpenClaim := { program := "ytmpfooekljbhhaadoor", sum := "31d0b49c7e897fddfd019f96b71fafeeda117cabd4db3454faf5b3eeafab9c2f", func := "livery/liverylaw10.WotsSigns", spec := "wotsSigns", unfollowed := true, recurses := true, named := ["livery/sha2.start", "livery/sha2.table"], apart := false, laid := [("livery/sha2.table", laid_livery_sha2_table), ("livery/sha2.start", laid_livery_sha2_start)] }
def WotsSignsSaid : Prop := wotsSignsRow.holds Tryd.pinned (OpenSpec.ofChange wotsSignsSpec)

/-- ITS FALSE NEIGHBOUR: 'it returns false'. Refute it at one input. -/
def wotsSignsWrong : ChangeSpec := { name := "wotsSigns", fn := fun _ => fun
  | [d1, d2, d3, d4, d5] => { results := [.lit (.bool false)], args := [d1, d2, d3, d4, d5] }
  | _ => none }
def WotsSignsWrongFalsely : Prop := wotsSignsRow.holds Tryd.pinned (OpenSpec.ofChange wotsSignsWrong)

/-- 'liverylaw10.WotsVerifies': WHATEVER THE INPUT: true; the input reads as it did. -/
def wotsVerifiesSpec : ChangeSpec := { name := "wotsVerifies", fn := fun _ => fun
  | [d1, d2, d3, d4, d5] => { results := [.lit (.bool true)], args := [d1, d2, d3, d4, d5] }
  | _ => none }
def wotsVerifiesRow : OpenClaim := { program := "ytmpfooekljbhhaadoor", sum := "31d0b49c7e897fddfd019f96b71fafeeda117cabd4db3454faf5b3eeafab9c2f", func := "livery/liverylaw10.WotsVerifies", spec := "wotsVerifies", unfollowed := true, recurses := true, named := ["livery/sha2.start", "livery/sha2.table"], apart := false, laid := [("livery/sha2.table", laid_livery_sha2_table), ("livery/sha2.start", laid_livery_sha2_start)] }
def WotsVerifiesSaid : Prop := wotsVerifiesRow.holds Tryd.pinned (OpenSpec.ofChange wotsVerifiesSpec)

/-- ITS FALSE NEIGHBOUR: 'it returns false'. Refute it at one input. -/
def wotsVerifiesWrong : ChangeSpec := { name := "wotsVerifies", fn := fun _ => fun
  | [d1, d2, d3, d4, d5] => { results := [.lit (.bool false)], args := [d1, d2, d3, d4, d5] }
  | _ => none }
def WotsVerifiesWrongFalsely : Prop := wotsVerifiesRow.holds Tryd.pinned (OpenSpec.ofChange wotsVerifiesWrong)

/-- 'liverylaw11.XmssNone': WHATEVER THE INPUT: true; the input reads as it did. -/
def xmssNoneSpec : ChangeSpec := { name := "xmssNone", fn := fun _ => fun
  | [d] => { results := [.lit (.bool true)], args := [d] }
  | _ => none }
def xmssNoneRow : OpenClaim := { program := "ytmpfooekljbhhaadoor", sum := "31d0b49c7e897fddfd019f96b71fafeeda117cabd4db3454faf5b3eeafab9c2f", func := "livery/liverylaw11.XmssNone", spec := "xmssNone", unfollowed := true, recurses := true, named := ["livery/sha2.start", "livery/sha2.table"], apart := false, laid := [("livery/sha2.table", laid_livery_sha2_table), ("livery/sha2.start", laid_livery_sha2_start)] }
def XmssNoneSaid : Prop := xmssNoneRow.holds Tryd.pinned (OpenSpec.ofChange xmssNoneSpec)

/-- ITS FALSE NEIGHBOUR: 'it returns false'. Refute it at one input. -/
def xmssNoneWrong : ChangeSpec := { name := "xmssNone", fn := fun _ => fun
  | [d] => { results := [.lit (.bool false)], args := [d] }
  | _ => none }
def XmssNoneWrongFalsely : Prop := xmssNoneRow.holds Tryd.pinned (OpenSpec.ofChange xmssNoneWrong)

/- THE SECOND FORM. 'bulk': how many values and letters a reading holds, each counted each time it is reached (what is shared counts as often as it is met; a slice's spare places count too). A statement '..UptoSaid' is the law's where the arguments, and the package variables that the reading takes, are together of bulk at most 1048576: NARROWER than '..Said'. Prove '..Said' where nothing that the law and all that it calls make is longer than what came in: it says more and counts as full. Else prove '..UptoSaid'. A law counts once. -/
mutual
def uptoBulk {H : Type} : DataW H → Nat
  | .lit (.string bytes) => bytes.length + 1
  | .lit _ => 1
  | .nil => 1
  | .ptr d => uptoBulk d + 1
  | .slice elems spare => uptoBulkAll elems + uptoBulkAll spare + 1
  | .agg parts => uptoBulkAll parts + 1
  | .iface _ d => uptoBulk d + 1
  | .map entries => uptoBulkEntries entries + 1
  | .held _ => 1
def uptoBulkAll {H : Type} : List (DataW H) → Nat
  | [] => 0
  | d :: r => uptoBulk d + uptoBulkAll r
def uptoBulkEntries {H : Type} : List (Lit × DataW H) → Nat
  | [] => 0
  | x :: r => uptoBulkEntry x + uptoBulkEntries r
def uptoBulkEntry {H : Type} : Lit × DataW H → Nat
  | (.string bytes, d) => bytes.length + uptoBulk d + 1
  | (_, d) => uptoBulk d + 1
 end
def uptoSmall : (H : Type) → List (DataW H) → Bool := fun _ ds => decide (uptoBulkAll ds ≤ 1048576)
def OpenSpec.upto (s : _root_.Go.ChangeSpec) : _root_.Go.OpenSpec := { _root_.Go.OpenSpec.ofChange s with cond := some uptoSmall }

/-- 'liverylaw11.XmssNodes', WHERE WHAT IT READS IS OF BULK AT MOST 1048576: true; the input reads as it did. -/
def xmssNodesUptoRow : OpenClaim := { program := "ytmpfooekljbhhaadoor", sum := "31d0b49c7e897fddfd019f96b71fafeeda117cabd4db3454faf5b3eeafab9c2f", func := "livery/liverylaw11.XmssNodes", spec := "xmssNodes", unfollowed := true, recurses := true, named := ["livery/sha2.start", "livery/sha2.table"], apart := false, laid := [("livery/sha2.table", laid_livery_sha2_table), ("livery/sha2.start", laid_livery_sha2_start)], narrowed := true }
def XmssNodesUptoSaid : Prop := xmssNodesUptoRow.holds Tryd.pinned (OpenSpec.upto xmssNodesSpec)

/-- 'liverylaw10.WotsSteps', WHERE WHAT IT READS IS OF BULK AT MOST 1048576: true; the input reads as it did. -/
def wotsStepsUptoRow : OpenClaim := { program := "ytmpfooekljbhhaadoor", sum := "31d0b49c7e897fddfd019f96b71fafeeda117cabd4db3454faf5b3eeafab9c2f", func := "livery/liverylaw10.WotsSteps", spec := "wotsSteps", unfollowed := true, recurses := true, named := ["livery/sha2.start", "livery/sha2.table"], apart := false, laid := [("livery/sha2.table", laid_livery_sha2_table), ("livery/sha2.start", laid_livery_sha2_start)], narrowed := true }
def WotsStepsUptoSaid : Prop := wotsStepsUptoRow.holds Tryd.pinned (OpenSpec.upto wotsStepsSpec)

/-- 'liverylaw10.WotsDigits', WHERE WHAT IT READS IS OF BULK AT MOST 1048576: true; the input reads as it did. -/
def wotsDigitsUptoRow : OpenClaim := { program := "ytmpfooekljbhhaadoor", sum := "31d0b49c7e897fddfd019f96b71fafeeda117cabd4db3454faf5b3eeafab9c2f", func := "livery/liverylaw10.WotsDigits", spec := "wotsDigits", unfollowed := true, recurses := true, named := ["livery/sha2.start", "livery/sha2.table"], apart := false, laid := [("livery/sha2.table", laid_livery_sha2_table), ("livery/sha2.start", laid_livery_sha2_start)], narrowed := true }
def WotsDigitsUptoSaid : Prop := wotsDigitsUptoRow.holds Tryd.pinned (OpenSpec.upto wotsDigitsSpec)

/-- 'liverylaw10.WotsBelow', WHERE WHAT IT READS IS OF BULK AT MOST 1048576: true; the input reads as it did. -/
def wotsBelowUptoRow : OpenClaim := { program := "ytmpfooekljbhhaadoor", sum := "31d0b49c7e897fddfd019f96b71fafeeda117cabd4db3454faf5b3eeafab9c2f", func := "livery/liverylaw10.WotsBelow", spec := "wotsBelow", unfollowed := true, recurses := true, named := ["livery/sha2.start", "livery/sha2.table"], apart := false, laid := [("livery/sha2.table", laid_livery_sha2_table), ("livery/sha2.start", laid_livery_sha2_start)], narrowed := true }
def WotsBelowUptoSaid : Prop := wotsBelowUptoRow.holds Tryd.pinned (OpenSpec.upto wotsBelowSpec)

/-- 'liverylaw10.WotsKeyed', WHERE WHAT IT READS IS OF BULK AT MOST 1048576: true; the input reads as it did. -/
def wotsKeyedUptoRow : OpenClaim := { program := "ytmpfooekljbhhaadoor", sum := "31d0b49c7e897fddfd019f96b71fafeeda117cabd4db3454faf5b3eeafab9c2f", func := "livery/liverylaw10.WotsKeyed", spec := "wotsKeyed", unfollowed := true, recurses := true, named := ["livery/sha2.start", "livery/sha2.table"], apart := false, laid := [("livery/sha2.table", laid_livery_sha2_table), ("livery/sha2.start", laid_livery_sha2_start)], narrowed := true }
def WotsKeyedUptoSaid : Prop := wotsKeyedUptoRow.holds Tryd.pinned (OpenSpec.upto wotsKeyedSpec)

/-- 'liverylaw10.WotsOn', WHERE WHAT IT READS IS OF BULK AT MOST 1048576: true; the input reads as it did. -/
def wotsOnUptoRow : OpenClaim := { program := "ytmpfooekljbhhaadoor", sum := "31d0b49c7e897fddfd019f96b71fafeeda117cabd4db3454faf5b3eeafab9c2f", func := "livery/liverylaw10.WotsOn", spec := "wotsOn", unfollowed := true, recurses := true, named := ["livery/sha2.start", "livery/sha2.table"], apart := false, laid := [("livery/sha2.table", laid_livery_sha2_table), ("livery/sha2.start", laid_livery_sha2_start)], narrowed := true }
def WotsOnUptoSaid : Prop := wotsOnUptoRow.holds Tryd.pinned (OpenSpec.upto wotsOnSpec)

/-- 'liverylaw11.XmssLtrees', WHERE WHAT IT READS IS OF BULK AT MOST 1048576: true; the input reads as it did. -/
def xmssLtreesUptoRow : OpenClaim := { program := "ytmpfooekljbhhaadoor", sum := "31d0b49c7e897fddfd019f96b71fafeeda117cabd4db3454faf5b3eeafab9c2f", func := "livery/liverylaw11.XmssLtrees", spec := "xmssLtrees", unfollowed := true, recurses := true, named := ["livery/sha2.start", "livery/sha2.table"], apart := false, laid := [("livery/sha2.table", laid_livery_sha2_table), ("livery/sha2.start", laid_livery_sha2_start)], narrowed := true }
def XmssLtreesUptoSaid : Prop := xmssLtreesUptoRow.holds Tryd.pinned (OpenSpec.upto xmssLtreesSpec)

/-- 'liverylaw10.WotsCounts', WHERE WHAT IT READS IS OF BULK AT MOST 1048576: true; the input reads as it did. -/
def wotsCountsUptoRow : OpenClaim := { program := "ytmpfooekljbhhaadoor", sum := "31d0b49c7e897fddfd019f96b71fafeeda117cabd4db3454faf5b3eeafab9c2f", func := "livery/liverylaw10.WotsCounts", spec := "wotsCounts", unfollowed := true, recurses := true, named := ["livery/sha2.start", "livery/sha2.table"], apart := false, laid := [("livery/sha2.table", laid_livery_sha2_table), ("livery/sha2.start", laid_livery_sha2_start)], narrowed := true }
def WotsCountsUptoSaid : Prop := wotsCountsUptoRow.holds Tryd.pinned (OpenSpec.upto wotsCountsSpec)

/-- 'liverylaw10.WotsPublic', WHERE WHAT IT READS IS OF BULK AT MOST 1048576: true; the input reads as it did. -/
def wotsPublicUptoRow : OpenClaim := { program := "ytmpfooekljbhhaadoor", sum := "31d0b49c7e897fddfd019f96b71fafeeda117cabd4db3454faf5b3eeafab9c2f", func := "livery/liverylaw10.WotsPublic", spec := "wotsPublic", unfollowed := true, recurses := true, named := ["livery/sha2.start", "livery/sha2.table"], apart := false, laid := [("livery/sha2.table", laid_livery_sha2_table), ("livery/sha2.start", laid_livery_sha2_start)], narrowed := true }
def WotsPublicUptoSaid : Prop := wotsPublicUptoRow.holds Tryd.pinned (OpenSpec.upto wotsPublicSpec)

/-- 'liverylaw10.WotsSigns', WHERE WHAT IT READS IS OF BULK AT MOST 1048576: true; the input reads as it did. -/
def wotsSignsUptoRow : OpenClaim := { program := "ytmpfooekljbhhaadoor", sum := "31d0b49c7e897fddfd019f96b71fafeeda117cabd4db3454faf5b3eeafab9c2f", func := "livery/liverylaw10.WotsSigns", spec := "wotsSigns", unfollowed := true, recurses := true, named := ["livery/sha2.start", "livery/sha2.table"], apart := false, laid := [("livery/sha2.table", laid_livery_sha2_table), ("livery/sha2.start", laid_livery_sha2_start)], narrowed := true }
def WotsSignsUptoSaid : Prop := wotsSignsUptoRow.holds Tryd.pinned (OpenSpec.upto wotsSignsSpec)

/-- 'liverylaw10.WotsVerifies', WHERE WHAT IT READS IS OF BULK AT MOST 1048576: true; the input reads as it did. -/
def wotsVerifiesUptoRow : OpenClaim := { program := "ytmpfooekljbhhaadoor", sum := "31d0b49c7e897fddfd019f96b71fafeeda117cabd4db3454faf5b3eeafab9c2f", func := "livery/liverylaw10.WotsVerifies", spec := "wotsVerifies", unfollowed := true, recurses := true, named := ["livery/sha2.start", "livery/sha2.table"], apart := false, laid := [("livery/sha2.table", laid_livery_sha2_table), ("livery/sha2.start", laid_livery_sha2_start)], narrowed := true }
def WotsVerifiesUptoSaid : Prop := wotsVerifiesUptoRow.holds Tryd.pinned (OpenSpec.upto wotsVerifiesSpec)

/-- 'liverylaw11.XmssNone', WHERE WHAT IT READS IS OF BULK AT MOST 1048576: true; the input reads as it did. -/
def xmssNoneUptoRow : OpenClaim := { program := "ytmpfooekljbhhaadoor", sum := "31d0b49c7e897fddfd019f96b71fafeeda117cabd4db3454faf5b3eeafab9c2f", func := "livery/liverylaw11.XmssNone", spec := "xmssNone", unfollowed := true, recurses := true, named := ["livery/sha2.start", "livery/sha2.table"], apart := false, laid := [("livery/sha2.table", laid_livery_sha2_table), ("livery/sha2.start", laid_livery_sha2_start)], narrowed := true }
def XmssNoneUptoSaid : Prop := xmssNoneUptoRow.holds Tryd.pinned (OpenSpec.upto xmssNoneSpec)

end Rows
end Go.Proofs.YtmpfooekljbhhaaDoor
