/-
  NARROWER THAN 'FOR EVERY INPUT', by the rows' own cells (each row's printed sentence says how): LmotsHashes: laid · LmotsChains: laid · LmotsSteps: laid · LmotsSecrets: laid · LmotsPublics: laid · LmotsSigns: laid · XmssNodes: laid · WotsSteps: laid · LmotsCandidates: laid · WotsDigits: laid · WotsBelow: laid · WotsKeyed: laid · HssSplits: laid · WotsOn: laid · XmssLtrees: laid · WotsCounts: laid · WotsPublic: laid · WotsSigns: laid · LmotsOwn: laid · WotsVerifies: laid · XmssNone: laid · LmsRight: laid · LmsNone: laid.
  DERIVED. THE GIVEN ROWS OF THIS SEAT. 23 by the template 'for every input the law returns true; each argument reads behind the call as it read before'; 0 by the template 'total and deterministic' (their statements: YtkpeoplkldpmlaaDoorTotals.lean).
  GIVEN WITH THE SEED: the statements are not yours to turn. If you find one false, say at which input.
  Laid BY PROGRAM, IN A SANDBOX (cutbox-rows.mjs): the forced cells as the released guide's own fill.sh prints them over the translation aa6f631f2e7bf8f1… (all of the seat's roots in one cut). By AI agents, Wed Nov 11 2026. No macro, syntax, notation, axiom, sorry.
-/
import Derived.Test.YtkpeoplkldpmlaaDoorChecked
import GoSem.Claim
import GoSem.ClaimJoined
import GoSem.ClaimMapViews
import Derived.JoinedTies
import Derived.KernelRfl
namespace Go.Proofs.YtkpeoplkldpmlaaDoor
/- THE CELL 'sum', in the pinned program and in every row, IS THE sha256 OF THE DUMP (.gsa) THAT YtkpeoplkldpmlaaDoorProg.lean LOADS. Nothing in Lean hashes anything: it is a label: what it is worth is what the hold of that sum in a sandbox is worth. -/
noncomputable def Tryd.pinned : Pinned := { name := "ytkpeoplkldpmlaadoor", sum := "aa6f631f2e7bf8f14e4051ce9aedad722802d3fb7e8656e823e00592d11385c1", checked := Tryd.checked }
namespace Rows
def none {H : Type} : Left H := { results := [], args := [] }

/- WHAT THE LISTED PACKAGE-LEVEL VARIABLES READ AS WHEN THE CALL BEGINS. Each datum BY PROGRAM (the guide's laid-datum.mjs) off the statement by which the dump's own 'gosem.cut.vars' lays the variable. In a bare row this is a premise. The card (YtkpeoplkldpmlaaDoorCards.lean) ties it to the program's text. -/
def laid_livery_sha2_table {H : Type} : DataW H := .agg [.lit (.int .u32 1116352408), .lit (.int .u32 1899447441), .lit (.int .u32 3049323471), .lit (.int .u32 3921009573), .lit (.int .u32 961987163), .lit (.int .u32 1508970993), .lit (.int .u32 2453635748), .lit (.int .u32 2870763221), .lit (.int .u32 3624381080), .lit (.int .u32 310598401), .lit (.int .u32 607225278), .lit (.int .u32 1426881987), .lit (.int .u32 1925078388), .lit (.int .u32 2162078206), .lit (.int .u32 2614888103), .lit (.int .u32 3248222580), .lit (.int .u32 3835390401), .lit (.int .u32 4022224774), .lit (.int .u32 264347078), .lit (.int .u32 604807628), .lit (.int .u32 770255983), .lit (.int .u32 1249150122), .lit (.int .u32 1555081692), .lit (.int .u32 1996064986), .lit (.int .u32 2554220882), .lit (.int .u32 2821834349), .lit (.int .u32 2952996808), .lit (.int .u32 3210313671), .lit (.int .u32 3336571891), .lit (.int .u32 3584528711), .lit (.int .u32 113926993), .lit (.int .u32 338241895), .lit (.int .u32 666307205), .lit (.int .u32 773529912), .lit (.int .u32 1294757372), .lit (.int .u32 1396182291), .lit (.int .u32 1695183700), .lit (.int .u32 1986661051), .lit (.int .u32 2177026350), .lit (.int .u32 2456956037), .lit (.int .u32 2730485921), .lit (.int .u32 2820302411), .lit (.int .u32 3259730800), .lit (.int .u32 3345764771), .lit (.int .u32 3516065817), .lit (.int .u32 3600352804), .lit (.int .u32 4094571909), .lit (.int .u32 275423344), .lit (.int .u32 430227734), .lit (.int .u32 506948616), .lit (.int .u32 659060556), .lit (.int .u32 883997877), .lit (.int .u32 958139571), .lit (.int .u32 1322822218), .lit (.int .u32 1537002063), .lit (.int .u32 1747873779), .lit (.int .u32 1955562222), .lit (.int .u32 2024104815), .lit (.int .u32 2227730452), .lit (.int .u32 2361852424), .lit (.int .u32 2428436474), .lit (.int .u32 2756734187), .lit (.int .u32 3204031479), .lit (.int .u32 3329325298)]
def laid_livery_sha2_start {H : Type} : DataW H := .agg [.lit (.int .u32 1779033703), .lit (.int .u32 3144134277), .lit (.int .u32 1013904242), .lit (.int .u32 2773480762), .lit (.int .u32 1359893119), .lit (.int .u32 2600822924), .lit (.int .u32 528734635), .lit (.int .u32 1541459225)]

/-- 'liverylaw07.LmotsHashes': WHATEVER THE INPUT: true; the input reads as it did. -/
def lmotsHashesSpec : ChangeSpec := { name := "lmotsHashes", fn := fun _ => fun
  | [d1, d2] => { results := [.lit (.bool true)], args := [d1, d2] }
  | _ => none }
def lmotsHashesRow : OpenClaim := { program := "ytkpeoplkldpmlaadoor", sum := "aa6f631f2e7bf8f14e4051ce9aedad722802d3fb7e8656e823e00592d11385c1", func := "livery/liverylaw07.LmotsHashes", spec := "lmotsHashes", named := ["livery/sha2.start", "livery/sha2.table"], apart := false, laid := [("livery/sha2.table", laid_livery_sha2_table), ("livery/sha2.start", laid_livery_sha2_start)] }
def LmotsHashesSaid : Prop := lmotsHashesRow.holds Tryd.pinned (OpenSpec.ofChange lmotsHashesSpec)

/-- ITS FALSE NEIGHBOUR: 'it returns false'. Refute it at one input. -/
def lmotsHashesWrong : ChangeSpec := { name := "lmotsHashes", fn := fun _ => fun
  | [d1, d2] => { results := [.lit (.bool false)], args := [d1, d2] }
  | _ => none }
def LmotsHashesWrongFalsely : Prop := lmotsHashesRow.holds Tryd.pinned (OpenSpec.ofChange lmotsHashesWrong)

/-- 'liverylaw07.LmotsChains': WHATEVER THE INPUT: true; the input reads as it did. -/
def lmotsChainsSpec : ChangeSpec := { name := "lmotsChains", fn := fun _ => fun
  | [d1, d2, d3] => { results := [.lit (.bool true)], args := [d1, d2, d3] }
  | _ => none }
def lmotsChainsRow : OpenClaim := { program := "ytkpeoplkldpmlaadoor", sum := "aa6f631f2e7bf8f14e4051ce9aedad722802d3fb7e8656e823e00592d11385c1", func := "livery/liverylaw07.LmotsChains", spec := "lmotsChains", named := ["livery/sha2.start", "livery/sha2.table"], apart := false, laid := [("livery/sha2.table", laid_livery_sha2_table), ("livery/sha2.start", laid_livery_sha2_start)] }
def LmotsChainsSaid : Prop := lmotsChainsRow.holds Tryd.pinned (OpenSpec.ofChange lmotsChainsSpec)

/-- ITS FALSE NEIGHBOUR: 'it returns false'. Refute it at one input. -/
def lmotsChainsWrong : ChangeSpec := { name := "lmotsChains", fn := fun _ => fun
  | [d1, d2, d3] => { results := [.lit (.bool false)], args := [d1, d2, d3] }
  | _ => none }
def LmotsChainsWrongFalsely : Prop := lmotsChainsRow.holds Tryd.pinned (OpenSpec.ofChange lmotsChainsWrong)

/-- 'liverylaw07.LmotsSteps': WHATEVER THE INPUT: true; the input reads as it did. -/
def lmotsStepsSpec : ChangeSpec := { name := "lmotsSteps", fn := fun _ => fun
  | [d1, d2, d3, d4] => { results := [.lit (.bool true)], args := [d1, d2, d3, d4] }
  | _ => none }
def lmotsStepsRow : OpenClaim := { program := "ytkpeoplkldpmlaadoor", sum := "aa6f631f2e7bf8f14e4051ce9aedad722802d3fb7e8656e823e00592d11385c1", func := "livery/liverylaw07.LmotsSteps", spec := "lmotsSteps", named := ["livery/sha2.start", "livery/sha2.table"], apart := false, laid := [("livery/sha2.table", laid_livery_sha2_table), ("livery/sha2.start", laid_livery_sha2_start)] }
def LmotsStepsSaid : Prop := lmotsStepsRow.holds Tryd.pinned (OpenSpec.ofChange lmotsStepsSpec)

/-- ITS FALSE NEIGHBOUR: 'it returns false'. Refute it at one input. -/
def lmotsStepsWrong : ChangeSpec := { name := "lmotsSteps", fn := fun _ => fun
  | [d1, d2, d3, d4] => { results := [.lit (.bool false)], args := [d1, d2, d3, d4] }
  | _ => none }
def LmotsStepsWrongFalsely : Prop := lmotsStepsRow.holds Tryd.pinned (OpenSpec.ofChange lmotsStepsWrong)

/-- 'liverylaw07.LmotsSecrets': WHATEVER THE INPUT: true; the input reads as it did. -/
def lmotsSecretsSpec : ChangeSpec := { name := "lmotsSecrets", fn := fun _ => fun
  | [d1, d2] => { results := [.lit (.bool true)], args := [d1, d2] }
  | _ => none }
def lmotsSecretsRow : OpenClaim := { program := "ytkpeoplkldpmlaadoor", sum := "aa6f631f2e7bf8f14e4051ce9aedad722802d3fb7e8656e823e00592d11385c1", func := "livery/liverylaw07.LmotsSecrets", spec := "lmotsSecrets", named := ["livery/sha2.start", "livery/sha2.table"], apart := false, laid := [("livery/sha2.table", laid_livery_sha2_table), ("livery/sha2.start", laid_livery_sha2_start)] }
def LmotsSecretsSaid : Prop := lmotsSecretsRow.holds Tryd.pinned (OpenSpec.ofChange lmotsSecretsSpec)

/-- ITS FALSE NEIGHBOUR: 'it returns false'. Refute it at one input. -/
def lmotsSecretsWrong : ChangeSpec := { name := "lmotsSecrets", fn := fun _ => fun
  | [d1, d2] => { results := [.lit (.bool false)], args := [d1, d2] }
  | _ => none }
def LmotsSecretsWrongFalsely : Prop := lmotsSecretsRow.holds Tryd.pinned (OpenSpec.ofChange lmotsSecretsWrong)

/-- 'liverylaw07.LmotsPublics': WHATEVER THE INPUT: true; the input reads as it did. -/
def lmotsPublicsSpec : ChangeSpec := { name := "lmotsPublics", fn := fun _ => fun
  | [d] => { results := [.lit (.bool true)], args := [d] }
  | _ => none }
def lmotsPublicsRow : OpenClaim := { program := "ytkpeoplkldpmlaadoor", sum := "aa6f631f2e7bf8f14e4051ce9aedad722802d3fb7e8656e823e00592d11385c1", func := "livery/liverylaw07.LmotsPublics", spec := "lmotsPublics", named := ["livery/sha2.start", "livery/sha2.table"], apart := false, laid := [("livery/sha2.table", laid_livery_sha2_table), ("livery/sha2.start", laid_livery_sha2_start)] }
def LmotsPublicsSaid : Prop := lmotsPublicsRow.holds Tryd.pinned (OpenSpec.ofChange lmotsPublicsSpec)

/-- ITS FALSE NEIGHBOUR: 'it returns false'. Refute it at one input. -/
def lmotsPublicsWrong : ChangeSpec := { name := "lmotsPublics", fn := fun _ => fun
  | [d] => { results := [.lit (.bool false)], args := [d] }
  | _ => none }
def LmotsPublicsWrongFalsely : Prop := lmotsPublicsRow.holds Tryd.pinned (OpenSpec.ofChange lmotsPublicsWrong)

/-- 'liverylaw07.LmotsSigns': WHATEVER THE INPUT: true; the input reads as it did. -/
def lmotsSignsSpec : ChangeSpec := { name := "lmotsSigns", fn := fun _ => fun
  | [d1, d2] => { results := [.lit (.bool true)], args := [d1, d2] }
  | _ => none }
def lmotsSignsRow : OpenClaim := { program := "ytkpeoplkldpmlaadoor", sum := "aa6f631f2e7bf8f14e4051ce9aedad722802d3fb7e8656e823e00592d11385c1", func := "livery/liverylaw07.LmotsSigns", spec := "lmotsSigns", named := ["livery/sha2.start", "livery/sha2.table"], apart := false, laid := [("livery/sha2.table", laid_livery_sha2_table), ("livery/sha2.start", laid_livery_sha2_start)] }
def LmotsSignsSaid : Prop := lmotsSignsRow.holds Tryd.pinned (OpenSpec.ofChange lmotsSignsSpec)

/-- ITS FALSE NEIGHBOUR: 'it returns false'. Refute it at one input. -/
def lmotsSignsWrong : ChangeSpec := { name := "lmotsSigns", fn := fun _ => fun
  | [d1, d2] => { results := [.lit (.bool false)], args := [d1, d2] }
  | _ => none }
def LmotsSignsWrongFalsely : Prop := lmotsSignsRow.holds Tryd.pinned (OpenSpec.ofChange lmotsSignsWrong)

/-- 'liverylaw11.XmssNodes': WHATEVER THE INPUT: true; the input reads as it did. -/
def xmssNodesSpec : ChangeSpec := { name := "xmssNodes", fn := fun _ => fun
  | [d1, d2, d3, d4, d5] => { results := [.lit (.bool true)], args := [d1, d2, d3, d4, d5] }
  | _ => none }
def xmssNodesRow : OpenClaim := { program := "ytkpeoplkldpmlaadoor", sum := "aa6f631f2e7bf8f14e4051ce9aedad722802d3fb7e8656e823e00592d11385c1", func := "livery/liverylaw11.XmssNodes", spec := "xmssNodes", unfollowed := true, recurses := true, named := ["livery/sha2.start", "livery/sha2.table"], apart := false, laid := [("livery/sha2.table", laid_livery_sha2_table), ("livery/sha2.start", laid_livery_sha2_start)] }
def XmssNodesSaid : Prop := xmssNodesRow.holds Tryd.pinned (OpenSpec.ofChange xmssNodesSpec)

/-- ITS FALSE NEIGHBOUR: 'it returns false'. Refute it at one input. -/
def xmssNodesWrong : ChangeSpec := { name := "xmssNodes", fn := fun _ => fun
  | [d1, d2, d3, d4, d5] => { results := [.lit (.bool false)], args := [d1, d2, d3, d4, d5] }
  | _ => none }
def XmssNodesWrongFalsely : Prop := xmssNodesRow.holds Tryd.pinned (OpenSpec.ofChange xmssNodesWrong)

/-- 'liverylaw10.WotsSteps': WHATEVER THE INPUT: true; the input reads as it did. -/
def wotsStepsSpec : ChangeSpec := { name := "wotsSteps", fn := fun _ => fun
  | [d1, d2, d3, d4, d5, d6, d7] => { results := [.lit (.bool true)], args := [d1, d2, d3, d4, d5, d6, d7] }
  | _ => none }
def wotsStepsRow : OpenClaim := { program := "ytkpeoplkldpmlaadoor", sum := "aa6f631f2e7bf8f14e4051ce9aedad722802d3fb7e8656e823e00592d11385c1", func := "livery/liverylaw10.WotsSteps", spec := "wotsSteps", unfollowed := true, recurses := true, named := ["livery/sha2.start", "livery/sha2.table"], apart := false, laid := [("livery/sha2.table", laid_livery_sha2_table), ("livery/sha2.start", laid_livery_sha2_start)] }
def WotsStepsSaid : Prop := wotsStepsRow.holds Tryd.pinned (OpenSpec.ofChange wotsStepsSpec)

/-- ITS FALSE NEIGHBOUR: 'it returns false'. Refute it at one input. -/
def wotsStepsWrong : ChangeSpec := { name := "wotsSteps", fn := fun _ => fun
  | [d1, d2, d3, d4, d5, d6, d7] => { results := [.lit (.bool false)], args := [d1, d2, d3, d4, d5, d6, d7] }
  | _ => none }
def WotsStepsWrongFalsely : Prop := wotsStepsRow.holds Tryd.pinned (OpenSpec.ofChange wotsStepsWrong)

/-- 'liverylaw07.LmotsCandidates': WHATEVER THE INPUT: true; the input reads as it did. -/
def lmotsCandidatesSpec : ChangeSpec := { name := "lmotsCandidates", fn := fun _ => fun
  | [d1, d2, d3] => { results := [.lit (.bool true)], args := [d1, d2, d3] }
  | _ => none }
def lmotsCandidatesRow : OpenClaim := { program := "ytkpeoplkldpmlaadoor", sum := "aa6f631f2e7bf8f14e4051ce9aedad722802d3fb7e8656e823e00592d11385c1", func := "livery/liverylaw07.LmotsCandidates", spec := "lmotsCandidates", named := ["livery/sha2.start", "livery/sha2.table"], apart := false, laid := [("livery/sha2.table", laid_livery_sha2_table), ("livery/sha2.start", laid_livery_sha2_start)] }
def LmotsCandidatesSaid : Prop := lmotsCandidatesRow.holds Tryd.pinned (OpenSpec.ofChange lmotsCandidatesSpec)

/-- ITS FALSE NEIGHBOUR: 'it returns false'. Refute it at one input. -/
def lmotsCandidatesWrong : ChangeSpec := { name := "lmotsCandidates", fn := fun _ => fun
  | [d1, d2, d3] => { results := [.lit (.bool false)], args := [d1, d2, d3] }
  | _ => none }
def LmotsCandidatesWrongFalsely : Prop := lmotsCandidatesRow.holds Tryd.pinned (OpenSpec.ofChange lmotsCandidatesWrong)

/-- 'liverylaw10.WotsDigits': WHATEVER THE INPUT: true; the input reads as it did. -/
def wotsDigitsSpec : ChangeSpec := { name := "wotsDigits", fn := fun _ => fun
  | [d1, d2] => { results := [.lit (.bool true)], args := [d1, d2] }
  | _ => none }
def wotsDigitsRow : OpenClaim := { program := "ytkpeoplkldpmlaadoor", sum := "aa6f631f2e7bf8f14e4051ce9aedad722802d3fb7e8656e823e00592d11385c1", func := "livery/liverylaw10.WotsDigits", spec := "wotsDigits", unfollowed := true, recurses := true, named := ["livery/sha2.start", "livery/sha2.table"], apart := false, laid := [("livery/sha2.table", laid_livery_sha2_table), ("livery/sha2.start", laid_livery_sha2_start)] }
def WotsDigitsSaid : Prop := wotsDigitsRow.holds Tryd.pinned (OpenSpec.ofChange wotsDigitsSpec)

/-- ITS FALSE NEIGHBOUR: 'it returns false'. Refute it at one input. -/
def wotsDigitsWrong : ChangeSpec := { name := "wotsDigits", fn := fun _ => fun
  | [d1, d2] => { results := [.lit (.bool false)], args := [d1, d2] }
  | _ => none }
def WotsDigitsWrongFalsely : Prop := wotsDigitsRow.holds Tryd.pinned (OpenSpec.ofChange wotsDigitsWrong)

/-- 'liverylaw10.WotsBelow': WHATEVER THE INPUT: true; the input reads as it did. -/
def wotsBelowSpec : ChangeSpec := { name := "wotsBelow", fn := fun _ => fun
  | [d1, d2, d3] => { results := [.lit (.bool true)], args := [d1, d2, d3] }
  | _ => none }
def wotsBelowRow : OpenClaim := { program := "ytkpeoplkldpmlaadoor", sum := "aa6f631f2e7bf8f14e4051ce9aedad722802d3fb7e8656e823e00592d11385c1", func := "livery/liverylaw10.WotsBelow", spec := "wotsBelow", unfollowed := true, recurses := true, named := ["livery/sha2.start", "livery/sha2.table"], apart := false, laid := [("livery/sha2.table", laid_livery_sha2_table), ("livery/sha2.start", laid_livery_sha2_start)] }
def WotsBelowSaid : Prop := wotsBelowRow.holds Tryd.pinned (OpenSpec.ofChange wotsBelowSpec)

/-- ITS FALSE NEIGHBOUR: 'it returns false'. Refute it at one input. -/
def wotsBelowWrong : ChangeSpec := { name := "wotsBelow", fn := fun _ => fun
  | [d1, d2, d3] => { results := [.lit (.bool false)], args := [d1, d2, d3] }
  | _ => none }
def WotsBelowWrongFalsely : Prop := wotsBelowRow.holds Tryd.pinned (OpenSpec.ofChange wotsBelowWrong)

/-- 'liverylaw10.WotsKeyed': WHATEVER THE INPUT: true; the input reads as it did. -/
def wotsKeyedSpec : ChangeSpec := { name := "wotsKeyed", fn := fun _ => fun
  | [d1, d2, d3, d4] => { results := [.lit (.bool true)], args := [d1, d2, d3, d4] }
  | _ => none }
def wotsKeyedRow : OpenClaim := { program := "ytkpeoplkldpmlaadoor", sum := "aa6f631f2e7bf8f14e4051ce9aedad722802d3fb7e8656e823e00592d11385c1", func := "livery/liverylaw10.WotsKeyed", spec := "wotsKeyed", unfollowed := true, recurses := true, named := ["livery/sha2.start", "livery/sha2.table"], apart := false, laid := [("livery/sha2.table", laid_livery_sha2_table), ("livery/sha2.start", laid_livery_sha2_start)] }
def WotsKeyedSaid : Prop := wotsKeyedRow.holds Tryd.pinned (OpenSpec.ofChange wotsKeyedSpec)

/-- ITS FALSE NEIGHBOUR: 'it returns false'. Refute it at one input. -/
def wotsKeyedWrong : ChangeSpec := { name := "wotsKeyed", fn := fun _ => fun
  | [d1, d2, d3, d4] => { results := [.lit (.bool false)], args := [d1, d2, d3, d4] }
  | _ => none }
def WotsKeyedWrongFalsely : Prop := wotsKeyedRow.holds Tryd.pinned (OpenSpec.ofChange wotsKeyedWrong)

/-- 'liverylaw09.HssSplits': WHATEVER THE INPUT: true; the input reads as it did. -/
def hssSplitsSpec : ChangeSpec := { name := "hssSplits", fn := fun _ => fun
  | [d1, d2, d3, d4, d5] => { results := [.lit (.bool true)], args := [d1, d2, d3, d4, d5] }
  | _ => none }
def hssSplitsRow : OpenClaim := { program := "ytkpeoplkldpmlaadoor", sum := "aa6f631f2e7bf8f14e4051ce9aedad722802d3fb7e8656e823e00592d11385c1", func := "livery/liverylaw09.HssSplits", spec := "hssSplits", named := ["livery/sha2.start", "livery/sha2.table"], apart := false, laid := [("livery/sha2.table", laid_livery_sha2_table), ("livery/sha2.start", laid_livery_sha2_start)] }
def HssSplitsSaid : Prop := hssSplitsRow.holds Tryd.pinned (OpenSpec.ofChange hssSplitsSpec)

/-- ITS FALSE NEIGHBOUR: 'it returns false'. Refute it at one input. -/
def hssSplitsWrong : ChangeSpec := { name := "hssSplits", fn := fun _ => fun
  | [d1, d2, d3, d4, d5] => { results := [.lit (.bool false)], args := [d1, d2, d3, d4, d5] }
  | _ => none }
def HssSplitsWrongFalsely : Prop := hssSplitsRow.holds Tryd.pinned (OpenSpec.ofChange hssSplitsWrong)

/-- 'liverylaw10.WotsOn': WHATEVER THE INPUT: true; the input reads as it did. -/
def wotsOnSpec : ChangeSpec := { name := "wotsOn", fn := fun _ => fun
  | [d1, d2, d3, d4, d5] => { results := [.lit (.bool true)], args := [d1, d2, d3, d4, d5] }
  | _ => none }
def wotsOnRow : OpenClaim := { program := "ytkpeoplkldpmlaadoor", sum := "aa6f631f2e7bf8f14e4051ce9aedad722802d3fb7e8656e823e00592d11385c1", func := "livery/liverylaw10.WotsOn", spec := "wotsOn", unfollowed := true, recurses := true, named := ["livery/sha2.start", "livery/sha2.table"], apart := false, laid := [("livery/sha2.table", laid_livery_sha2_table), ("livery/sha2.start", laid_livery_sha2_start)] }
def WotsOnSaid : Prop := wotsOnRow.holds Tryd.pinned (OpenSpec.ofChange wotsOnSpec)

/-- ITS FALSE NEIGHBOUR: 'it returns false'. Refute it at one input. -/
def wotsOnWrong : ChangeSpec := { name := "wotsOn", fn := fun _ => fun
  | [d1, d2, d3, d4, d5] => { results := [.lit (.bool false)], args := [d1, d2, d3, d4, d5] }
  | _ => none }
def WotsOnWrongFalsely : Prop := wotsOnRow.holds Tryd.pinned (OpenSpec.ofChange wotsOnWrong)

/-- 'liverylaw11.XmssLtrees': WHATEVER THE INPUT: true; the input reads as it did. -/
def xmssLtreesSpec : ChangeSpec := { name := "xmssLtrees", fn := fun _ => fun
  | [d1, d2, d3, d4] => { results := [.lit (.bool true)], args := [d1, d2, d3, d4] }
  | _ => none }
def xmssLtreesRow : OpenClaim := { program := "ytkpeoplkldpmlaadoor", sum := "aa6f631f2e7bf8f14e4051ce9aedad722802d3fb7e8656e823e00592d11385c1", func := "livery/liverylaw11.XmssLtrees", spec := "xmssLtrees", unfollowed := true, recurses := true, named := ["livery/sha2.start", "livery/sha2.table"], apart := false, laid := [("livery/sha2.table", laid_livery_sha2_table), ("livery/sha2.start", laid_livery_sha2_start)] }
def XmssLtreesSaid : Prop := xmssLtreesRow.holds Tryd.pinned (OpenSpec.ofChange xmssLtreesSpec)

/-- ITS FALSE NEIGHBOUR: 'it returns false'. Refute it at one input. -/
def xmssLtreesWrong : ChangeSpec := { name := "xmssLtrees", fn := fun _ => fun
  | [d1, d2, d3, d4] => { results := [.lit (.bool false)], args := [d1, d2, d3, d4] }
  | _ => none }
def XmssLtreesWrongFalsely : Prop := xmssLtreesRow.holds Tryd.pinned (OpenSpec.ofChange xmssLtreesWrong)

/-- 'liverylaw10.WotsCounts': WHATEVER THE INPUT: true; the input reads as it did. -/
def wotsCountsSpec : ChangeSpec := { name := "wotsCounts", fn := fun _ => fun
  | [d1, d2, d3, d4, d5] => { results := [.lit (.bool true)], args := [d1, d2, d3, d4, d5] }
  | _ => none }
def wotsCountsRow : OpenClaim := { program := "ytkpeoplkldpmlaadoor", sum := "aa6f631f2e7bf8f14e4051ce9aedad722802d3fb7e8656e823e00592d11385c1", func := "livery/liverylaw10.WotsCounts", spec := "wotsCounts", unfollowed := true, recurses := true, named := ["livery/sha2.start", "livery/sha2.table"], apart := false, laid := [("livery/sha2.table", laid_livery_sha2_table), ("livery/sha2.start", laid_livery_sha2_start)] }
def WotsCountsSaid : Prop := wotsCountsRow.holds Tryd.pinned (OpenSpec.ofChange wotsCountsSpec)

/-- ITS FALSE NEIGHBOUR: 'it returns false'. Refute it at one input. -/
def wotsCountsWrong : ChangeSpec := { name := "wotsCounts", fn := fun _ => fun
  | [d1, d2, d3, d4, d5] => { results := [.lit (.bool false)], args := [d1, d2, d3, d4, d5] }
  | _ => none }
def WotsCountsWrongFalsely : Prop := wotsCountsRow.holds Tryd.pinned (OpenSpec.ofChange wotsCountsWrong)

/-- 'liverylaw10.WotsPublic': WHATEVER THE INPUT: true; the input reads as it did. -/
def wotsPublicSpec : ChangeSpec := { name := "wotsPublic", fn := fun _ => fun
  | [d1, d2, d3, d4] => { results := [.lit (.bool true)], args := [d1, d2, d3, d4] }
  | _ => none }
def wotsPublicRow : OpenClaim := { program := "ytkpeoplkldpmlaadoor", sum := "aa6f631f2e7bf8f14e4051ce9aedad722802d3fb7e8656e823e00592d11385c1", func := "livery/liverylaw10.WotsPublic", spec := "wotsPublic", unfollowed := true, recurses := true, named := ["livery/sha2.start", "livery/sha2.table"], apart := false, laid := [("livery/sha2.table", laid_livery_sha2_table), ("livery/sha2.start", laid_livery_sha2_start)] }
def WotsPublicSaid : Prop := wotsPublicRow.holds Tryd.pinned (OpenSpec.ofChange wotsPublicSpec)

/-- ITS FALSE NEIGHBOUR: 'it returns false'. Refute it at one input. -/
def wotsPublicWrong : ChangeSpec := { name := "wotsPublic", fn := fun _ => fun
  | [d1, d2, d3, d4] => { results := [.lit (.bool false)], args := [d1, d2, d3, d4] }
  | _ => none }
def WotsPublicWrongFalsely : Prop := wotsPublicRow.holds Tryd.pinned (OpenSpec.ofChange wotsPublicWrong)

/-- 'liverylaw10.WotsSigns': WHATEVER THE INPUT: true; the input reads as it did. -/
def wotsSignsSpec : ChangeSpec := { name := "wotsSigns", fn := fun _ => fun
  | [d1, d2, d3, d4, d5] => { results := [.lit (.bool true)], args := [d1, d2, d3, d4, d5] }
  | _ => none }
def wotsSignsRow : OpenClaim := { program := "ytkpeoplkldpmlaadoor", sum := "aa6f631f2e7bf8f14e4051ce9aedad722802d3fb7e8656e823e00592d11385c1", func := "livery/liverylaw10.WotsSigns", spec := "wotsSigns", unfollowed := true, recurses := true, named := ["livery/sha2.start", "livery/sha2.table"], apart := false, laid := [("livery/sha2.table", laid_livery_sha2_table), ("livery/sha2.start", laid_livery_sha2_start)] }
def WotsSignsSaid : Prop := wotsSignsRow.holds Tryd.pinned (OpenSpec.ofChange wotsSignsSpec)

/-- ITS FALSE NEIGHBOUR: 'it returns false'. Refute it at one input. -/
def wotsSignsWrong : ChangeSpec := { name := "wotsSigns", fn := fun _ => fun
  | [d1, d2, d3, d4, d5] => { results := [.lit (.bool false)], args := [d1, d2, d3, d4, d5] }
  | _ => none }
def WotsSignsWrongFalsely : Prop := wotsSignsRow.holds Tryd.pinned (OpenSpec.ofChange wotsSignsWrong)

/-- 'liverylaw07.LmotsOwn': WHATEVER THE INPUT: true; the input reads as it did. -/
def lmotsOwnSpec : ChangeSpec := { name := "lmotsOwn", fn := fun _ => fun
  | [d1, d2] => { results := [.lit (.bool true)], args := [d1, d2] }
  | _ => none }
def lmotsOwnRow : OpenClaim := { program := "ytkpeoplkldpmlaadoor", sum := "aa6f631f2e7bf8f14e4051ce9aedad722802d3fb7e8656e823e00592d11385c1", func := "livery/liverylaw07.LmotsOwn", spec := "lmotsOwn", named := ["livery/sha2.start", "livery/sha2.table"], apart := false, laid := [("livery/sha2.table", laid_livery_sha2_table), ("livery/sha2.start", laid_livery_sha2_start)] }
def LmotsOwnSaid : Prop := lmotsOwnRow.holds Tryd.pinned (OpenSpec.ofChange lmotsOwnSpec)

/-- ITS FALSE NEIGHBOUR: 'it returns false'. Refute it at one input. -/
def lmotsOwnWrong : ChangeSpec := { name := "lmotsOwn", fn := fun _ => fun
  | [d1, d2] => { results := [.lit (.bool false)], args := [d1, d2] }
  | _ => none }
def LmotsOwnWrongFalsely : Prop := lmotsOwnRow.holds Tryd.pinned (OpenSpec.ofChange lmotsOwnWrong)

/-- 'liverylaw10.WotsVerifies': WHATEVER THE INPUT: true; the input reads as it did. -/
def wotsVerifiesSpec : ChangeSpec := { name := "wotsVerifies", fn := fun _ => fun
  | [d1, d2, d3, d4, d5] => { results := [.lit (.bool true)], args := [d1, d2, d3, d4, d5] }
  | _ => none }
def wotsVerifiesRow : OpenClaim := { program := "ytkpeoplkldpmlaadoor", sum := "aa6f631f2e7bf8f14e4051ce9aedad722802d3fb7e8656e823e00592d11385c1", func := "livery/liverylaw10.WotsVerifies", spec := "wotsVerifies", unfollowed := true, recurses := true, named := ["livery/sha2.start", "livery/sha2.table"], apart := false, laid := [("livery/sha2.table", laid_livery_sha2_table), ("livery/sha2.start", laid_livery_sha2_start)] }
def WotsVerifiesSaid : Prop := wotsVerifiesRow.holds Tryd.pinned (OpenSpec.ofChange wotsVerifiesSpec)

/-- ITS FALSE NEIGHBOUR: 'it returns false'. Refute it at one input. -/
def wotsVerifiesWrong : ChangeSpec := { name := "wotsVerifies", fn := fun _ => fun
  | [d1, d2, d3, d4, d5] => { results := [.lit (.bool false)], args := [d1, d2, d3, d4, d5] }
  | _ => none }
def WotsVerifiesWrongFalsely : Prop := wotsVerifiesRow.holds Tryd.pinned (OpenSpec.ofChange wotsVerifiesWrong)

/-- 'liverylaw11.XmssNone': WHATEVER THE INPUT: true; the input reads as it did. -/
def xmssNoneSpec : ChangeSpec := { name := "xmssNone", fn := fun _ => fun
  | [d] => { results := [.lit (.bool true)], args := [d] }
  | _ => none }
def xmssNoneRow : OpenClaim := { program := "ytkpeoplkldpmlaadoor", sum := "aa6f631f2e7bf8f14e4051ce9aedad722802d3fb7e8656e823e00592d11385c1", func := "livery/liverylaw11.XmssNone", spec := "xmssNone", unfollowed := true, recurses := true, named := ["livery/sha2.start", "livery/sha2.table"], apart := false, laid := [("livery/sha2.table", laid_livery_sha2_table), ("livery/sha2.start", laid_livery_sha2_start)] }
def XmssNoneSaid : Prop := xmssNoneRow.holds Tryd.pinned (OpenSpec.ofChange xmssNoneSpec)

/-- ITS FALSE NEIGHBOUR: 'it returns false'. Refute it at one input. -/
def xmssNoneWrong : ChangeSpec := { name := "xmssNone", fn := fun _ => fun
  | [d] => { results := [.lit (.bool false)], args := [d] }
  | _ => none }
def XmssNoneWrongFalsely : Prop := xmssNoneRow.holds Tryd.pinned (OpenSpec.ofChange xmssNoneWrong)

/-- 'liverylaw08.LmsRight': WHATEVER THE INPUT: true; the input reads as it did. -/
def lmsRightSpec : ChangeSpec := { name := "lmsRight", fn := fun _ => fun
  | [d1, d2, d3] => { results := [.lit (.bool true)], args := [d1, d2, d3] }
  | _ => none }
def lmsRightRow : OpenClaim := { program := "ytkpeoplkldpmlaadoor", sum := "aa6f631f2e7bf8f14e4051ce9aedad722802d3fb7e8656e823e00592d11385c1", func := "livery/liverylaw08.LmsRight", spec := "lmsRight", unfollowed := true, recurses := true, named := ["livery/sha2.start", "livery/sha2.table"], apart := false, laid := [("livery/sha2.table", laid_livery_sha2_table), ("livery/sha2.start", laid_livery_sha2_start)] }
def LmsRightSaid : Prop := lmsRightRow.holds Tryd.pinned (OpenSpec.ofChange lmsRightSpec)

/-- ITS FALSE NEIGHBOUR: 'it returns false'. Refute it at one input. -/
def lmsRightWrong : ChangeSpec := { name := "lmsRight", fn := fun _ => fun
  | [d1, d2, d3] => { results := [.lit (.bool false)], args := [d1, d2, d3] }
  | _ => none }
def LmsRightWrongFalsely : Prop := lmsRightRow.holds Tryd.pinned (OpenSpec.ofChange lmsRightWrong)

/-- 'liverylaw08.LmsNone': WHATEVER THE INPUT: true; the input reads as it did. -/
def lmsNoneSpec : ChangeSpec := { name := "lmsNone", fn := fun _ => fun
  | [] => { results := [.lit (.bool true)], args := [] }
  | _ => none }
def lmsNoneRow : OpenClaim := { program := "ytkpeoplkldpmlaadoor", sum := "aa6f631f2e7bf8f14e4051ce9aedad722802d3fb7e8656e823e00592d11385c1", func := "livery/liverylaw08.LmsNone", spec := "lmsNone", unfollowed := true, recurses := true, named := ["livery/sha2.start", "livery/sha2.table"], apart := false, laid := [("livery/sha2.table", laid_livery_sha2_table), ("livery/sha2.start", laid_livery_sha2_start)] }
def LmsNoneSaid : Prop := lmsNoneRow.holds Tryd.pinned (OpenSpec.ofChange lmsNoneSpec)

/-- ITS FALSE NEIGHBOUR: 'it returns false'. Refute it at one input. -/
def lmsNoneWrong : ChangeSpec := { name := "lmsNone", fn := fun _ => fun
  | [] => { results := [.lit (.bool false)], args := [] }
  | _ => none }
def LmsNoneWrongFalsely : Prop := lmsNoneRow.holds Tryd.pinned (OpenSpec.ofChange lmsNoneWrong)

/- THE SECOND FORM. 'bulk': how many values and letters a reading holds, each counted each time it is reached (what is shared counts as often as it is met; a slice's spare places count too). A statement '..UptoSaid' is the law's where the arguments, and the package variables that the reading takes, are together of bulk at most 1048576: NARROWER than '..Said'. Prove '..Said' where nothing that the law and all that it calls make is longer than what came in: it says more and counts as full. Else prove '..UptoSaid'. A law counts once. -/
mutual
def uptoBulk {H : Type} : DataW H → Nat
  | .lit (.string bytes) => bytes.length + 1
  | .lit _ => 1
  | .nil => 1
  | .ptr d => uptoBulk d + 1
  | .slice elems spare => uptoBulkAll elems + uptoBulkAll spare + 1
  | .agg parts => uptoBulkAll parts + 1
  | .iface _ d => uptoBulk d + 1
  | .map entries => uptoBulkEntries entries + 1
  | .held _ => 1
def uptoBulkAll {H : Type} : List (DataW H) → Nat
  | [] => 0
  | d :: r => uptoBulk d + uptoBulkAll r
def uptoBulkEntries {H : Type} : List (Lit × DataW H) → Nat
  | [] => 0
  | x :: r => uptoBulkEntry x + uptoBulkEntries r
def uptoBulkEntry {H : Type} : Lit × DataW H → Nat
  | (.string bytes, d) => bytes.length + uptoBulk d + 1
  | (_, d) => uptoBulk d + 1
 end
def uptoSmall : (H : Type) → List (DataW H) → Bool := fun _ ds => decide (uptoBulkAll ds ≤ 1048576)
def OpenSpec.upto (s : _root_.Go.ChangeSpec) : _root_.Go.OpenSpec := { _root_.Go.OpenSpec.ofChange s with cond := some uptoSmall }

/-- 'liverylaw07.LmotsHashes', WHERE WHAT IT READS IS OF BULK AT MOST 1048576: true; the input reads as it did. -/
def lmotsHashesUptoRow : OpenClaim := { program := "ytkpeoplkldpmlaadoor", sum := "aa6f631f2e7bf8f14e4051ce9aedad722802d3fb7e8656e823e00592d11385c1", func := "livery/liverylaw07.LmotsHashes", spec := "lmotsHashes", named := ["livery/sha2.start", "livery/sha2.table"], apart := false, laid := [("livery/sha2.table", laid_livery_sha2_table), ("livery/sha2.start", laid_livery_sha2_start)], narrowed := true }
def LmotsHashesUptoSaid : Prop := lmotsHashesUptoRow.holds Tryd.pinned (OpenSpec.upto lmotsHashesSpec)

/-- 'liverylaw07.LmotsChains', WHERE WHAT IT READS IS OF BULK AT MOST 1048576: true; the input reads as it did. -/
def lmotsChainsUptoRow : OpenClaim := { program := "ytkpeoplkldpmlaadoor", sum := "aa6f631f2e7bf8f14e4051ce9aedad722802d3fb7e8656e823e00592d11385c1", func := "livery/liverylaw07.LmotsChains", spec := "lmotsChains", named := ["livery/sha2.start", "livery/sha2.table"], apart := false, laid := [("livery/sha2.table", laid_livery_sha2_table), ("livery/sha2.start", laid_livery_sha2_start)], narrowed := true }
def LmotsChainsUptoSaid : Prop := lmotsChainsUptoRow.holds Tryd.pinned (OpenSpec.upto lmotsChainsSpec)

/-- 'liverylaw07.LmotsSteps', WHERE WHAT IT READS IS OF BULK AT MOST 1048576: true; the input reads as it did. -/
def lmotsStepsUptoRow : OpenClaim := { program := "ytkpeoplkldpmlaadoor", sum := "aa6f631f2e7bf8f14e4051ce9aedad722802d3fb7e8656e823e00592d11385c1", func := "livery/liverylaw07.LmotsSteps", spec := "lmotsSteps", named := ["livery/sha2.start", "livery/sha2.table"], apart := false, laid := [("livery/sha2.table", laid_livery_sha2_table), ("livery/sha2.start", laid_livery_sha2_start)], narrowed := true }
def LmotsStepsUptoSaid : Prop := lmotsStepsUptoRow.holds Tryd.pinned (OpenSpec.upto lmotsStepsSpec)

/-- 'liverylaw07.LmotsSecrets', WHERE WHAT IT READS IS OF BULK AT MOST 1048576: true; the input reads as it did. -/
def lmotsSecretsUptoRow : OpenClaim := { program := "ytkpeoplkldpmlaadoor", sum := "aa6f631f2e7bf8f14e4051ce9aedad722802d3fb7e8656e823e00592d11385c1", func := "livery/liverylaw07.LmotsSecrets", spec := "lmotsSecrets", named := ["livery/sha2.start", "livery/sha2.table"], apart := false, laid := [("livery/sha2.table", laid_livery_sha2_table), ("livery/sha2.start", laid_livery_sha2_start)], narrowed := true }
def LmotsSecretsUptoSaid : Prop := lmotsSecretsUptoRow.holds Tryd.pinned (OpenSpec.upto lmotsSecretsSpec)

/-- 'liverylaw07.LmotsPublics', WHERE WHAT IT READS IS OF BULK AT MOST 1048576: true; the input reads as it did. -/
def lmotsPublicsUptoRow : OpenClaim := { program := "ytkpeoplkldpmlaadoor", sum := "aa6f631f2e7bf8f14e4051ce9aedad722802d3fb7e8656e823e00592d11385c1", func := "livery/liverylaw07.LmotsPublics", spec := "lmotsPublics", named := ["livery/sha2.start", "livery/sha2.table"], apart := false, laid := [("livery/sha2.table", laid_livery_sha2_table), ("livery/sha2.start", laid_livery_sha2_start)], narrowed := true }
def LmotsPublicsUptoSaid : Prop := lmotsPublicsUptoRow.holds Tryd.pinned (OpenSpec.upto lmotsPublicsSpec)

/-- 'liverylaw07.LmotsSigns', WHERE WHAT IT READS IS OF BULK AT MOST 1048576: true; the input reads as it did. -/
def lmotsSignsUptoRow : OpenClaim := { program := "ytkpeoplkldpmlaadoor", sum := "aa6f631f2e7bf8f14e4051ce9aedad722802d3fb7e8656e823e00592d11385c1", func := "livery/liverylaw07.LmotsSigns", spec := "lmotsSigns", named := ["livery/sha2.start", "livery/sha2.table"], apart := false, laid := [("livery/sha2.table", laid_livery_sha2_table), ("livery/sha2.start", laid_livery_sha2_start)], narrowed := true }
def LmotsSignsUptoSaid : Prop := lmotsSignsUptoRow.holds Tryd.pinned (OpenSpec.upto lmotsSignsSpec)

/-- 'liverylaw11.XmssNodes', WHERE WHAT IT READS IS OF BULK AT MOST 1048576: true; the input reads as it did. -/
def xmssNodesUptoRow : OpenClaim := { program := "ytkpeoplkldpmlaadoor", sum := "aa6f631f2e7bf8f14e4051ce9aedad722802d3fb7e8656e823e00592d11385c1", func := "livery/liverylaw11.XmssNodes", spec := "xmssNodes", unfollowed := true, recurses := true, named := ["livery/sha2.start", "livery/sha2.table"], apart := false, laid := [("livery/sha2.table", laid_livery_sha2_table), ("livery/sha2.start", laid_livery_sha2_start)], narrowed := true }
def XmssNodesUptoSaid : Prop := xmssNodesUptoRow.holds Tryd.pinned (OpenSpec.upto xmssNodesSpec)

/-- 'liverylaw10.WotsSteps', WHERE WHAT IT READS IS OF BULK AT MOST 1048576: true; the input reads as it did. -/
def wotsStepsUptoRow : OpenClaim := { program := "ytkpeoplkldpmlaadoor", sum := "aa6f631f2e7bf8f14e4051ce9aedad722802d3fb7e8656e823e00592d11385c1", func := "livery/liverylaw10.WotsSteps", spec := "wotsSteps", unfollowed := true, recurses := true, named := ["livery/sha2.start", "livery/sha2.table"], apart := false, laid := [("livery/sha2.table", laid_livery_sha2_table), ("livery/sha2.start", laid_livery_sha2_start)], narrowed := true }
def WotsStepsUptoSaid : Prop := wotsStepsUptoRow.holds Tryd.pinned (OpenSpec.upto wotsStepsSpec)

/-- 'liverylaw07.LmotsCandidates', WHERE WHAT IT READS IS OF BULK AT MOST 1048576: true; the input reads as it did. -/
def lmotsCandidatesUptoRow : OpenClaim := { program := "ytkpeoplkldpmlaadoor", sum := "aa6f631f2e7bf8f14e4051ce9aedad722802d3fb7e8656e823e00592d11385c1", func := "livery/liverylaw07.LmotsCandidates", spec := "lmotsCandidates", named := ["livery/sha2.start", "livery/sha2.table"], apart := false, laid := [("livery/sha2.table", laid_livery_sha2_table), ("livery/sha2.start", laid_livery_sha2_start)], narrowed := true }
def LmotsCandidatesUptoSaid : Prop := lmotsCandidatesUptoRow.holds Tryd.pinned (OpenSpec.upto lmotsCandidatesSpec)

/-- 'liverylaw10.WotsDigits', WHERE WHAT IT READS IS OF BULK AT MOST 1048576: true; the input reads as it did. -/
def wotsDigitsUptoRow : OpenClaim := { program := "ytkpeoplkldpmlaadoor", sum := "aa6f631f2e7bf8f14e4051ce9aedad722802d3fb7e8656e823e00592d11385c1", func := "livery/liverylaw10.WotsDigits", spec := "wotsDigits", unfollowed := true, recurses := true, named := ["livery/sha2.start", "livery/sha2.table"], apart := false, laid := [("livery/sha2.table", laid_livery_sha2_table), ("livery/sha2.start", laid_livery_sha2_start)], narrowed := true }
def WotsDigitsUptoSaid : Prop := wotsDigitsUptoRow.holds Tryd.pinned (OpenSpec.upto wotsDigitsSpec)

/-- 'liverylaw10.WotsBelow', WHERE WHAT IT READS IS OF BULK AT MOST 1048576: true; the input reads as it did. -/
def wotsBelowUptoRow : OpenClaim := { program := "ytkpeoplkldpmlaadoor", sum := "aa6f631f2e7bf8f14e4051ce9aedad722802d3fb7e8656e823e00592d11385c1", func := "livery/liverylaw10.WotsBelow", spec := "wotsBelow", unfollowed := true, recurses := true, named := ["livery/sha2.start", "livery/sha2.table"], apart := false, laid := [("livery/sha2.table", laid_livery_sha2_table), ("livery/sha2.start", laid_livery_sha2_start)], narrowed := true }
def WotsBelowUptoSaid : Prop := wotsBelowUptoRow.holds Tryd.pinned (OpenSpec.upto wotsBelowSpec)

/-- 'liverylaw10.WotsKeyed', WHERE WHAT IT READS IS OF BULK AT MOST 1048576: true; the input reads as it did. -/
def wotsKeyedUptoRow : OpenClaim := { program := "ytkpeoplkldpmlaadoor", sum := "aa6f631f2e7bf8f14e4051ce9aedad722802d3fb7e8656e823e00592d11385c1", func := "livery/liverylaw10.WotsKeyed", spec := "wotsKeyed", unfollowed := true, recurses := true, named := ["livery/sha2.start", "livery/sha2.table"], apart := false, laid := [("livery/sha2.table", laid_livery_sha2_table), ("livery/sha2.start", laid_livery_sha2_start)], narrowed := true }
def WotsKeyedUptoSaid : Prop := wotsKeyedUptoRow.holds Tryd.pinned (OpenSpec.upto wotsKeyedSpec)

/-- 'liverylaw09.HssSplits', WHERE WHAT IT READS IS OF BULK AT MOST 1048576: true; the input reads as it did. -/
def hssSplitsUptoRow : OpenClaim := { program := "ytkpeoplkldpmlaadoor", sum := "aa6f631f2e7bf8f14e4051ce9aedad722802d3fb7e8656e823e00592d11385c1", func := "livery/liverylaw09.HssSplits", spec := "hssSplits", named := ["livery/sha2.start", "livery/sha2.table"], apart := false, laid := [("livery/sha2.table", laid_livery_sha2_table), ("livery/sha2.start", laid_livery_sha2_start)], narrowed := true }
def HssSplitsUptoSaid : Prop := hssSplitsUptoRow.holds Tryd.pinned (OpenSpec.upto hssSplitsSpec)

/-- 'liverylaw10.WotsOn', WHERE WHAT IT READS IS OF BULK AT MOST 1048576: true; the input reads as it did. -/
def wotsOnUptoRow : OpenClaim := { program := "ytkpeoplkldpmlaadoor", sum := "aa6f631f2e7bf8f14e4051ce9aedad722802d3fb7e8656e823e00592d11385c1", func := "livery/liverylaw10.WotsOn", spec := "wotsOn", unfollowed := true, recurses := true, named := ["livery/sha2.start", "livery/sha2.table"], apart := false, laid := [("livery/sha2.table", laid_livery_sha2_table), ("livery/sha2.start", laid_livery_sha2_start)], narrowed := true }
def WotsOnUptoSaid : Prop := wotsOnUptoRow.holds Tryd.pinned (OpenSpec.upto wotsOnSpec)

/-- 'liverylaw11.XmssLtrees', WHERE WHAT IT READS IS OF BULK AT MOST 1048576: true; the input reads as it did. -/
def xmssLtreesUptoRow : OpenClaim := { program := "ytkpeoplkldpmlaadoor", sum := "aa6f631f2e7bf8f14e4051ce9aedad722802d3fb7e8656e823e00592d11385c1", func := "livery/liverylaw11.XmssLtrees", spec := "xmssLtrees", unfollowed := true, recurses := true, named := ["livery/sha2.start", "livery/sha2.table"], apart := false, laid := [("livery/sha2.table", laid_livery_sha2_table), ("livery/sha2.start", laid_livery_sha2_start)], narrowed := true }
def XmssLtreesUptoSaid : Prop := xmssLtreesUptoRow.holds Tryd.pinned (OpenSpec.upto xmssLtreesSpec)

/-- 'liverylaw10.WotsCounts', WHERE WHAT IT READS IS OF BULK AT MOST 1048576: true; the input reads as it did. -/
def wotsCountsUptoRow : OpenClaim := { program := "ytkpeoplkldpmlaadoor", sum := "aa6f631f2e7bf8f14e4051ce9aedad722802d3fb7e8656e823e00592d11385c1", func := "livery/liverylaw10.WotsCounts", spec := "wotsCounts", unfollowed := true, recurses := true, named := ["livery/sha2.start", "livery/sha2.table"], apart := false, laid := [("livery/sha2.table", laid_livery_sha2_table), ("livery/sha2.start", laid_livery_sha2_start)], narrowed := true }
def WotsCountsUptoSaid : Prop := wotsCountsUptoRow.holds Tryd.pinned (OpenSpec.upto wotsCountsSpec)

/-- 'liverylaw10.WotsPublic', WHERE WHAT IT READS IS OF BULK AT MOST 1048576: true; the input reads as it did. -/
def wotsPublicUptoRow : OpenClaim := { program := "ytkpeoplkldpmlaadoor", sum := "aa6f631f2e7bf8f14e4051ce9aedad722802d3fb7e8656e823e00592d11385c1", func := "livery/liverylaw10.WotsPublic", spec := "wotsPublic", unfollowed := true, recurses := true, named := ["livery/sha2.start", "livery/sha2.table"], apart := false, laid := [("livery/sha2.table", laid_livery_sha2_table), ("livery/sha2.start", laid_livery_sha2_start)], narrowed := true }
def WotsPublicUptoSaid : Prop := wotsPublicUptoRow.holds Tryd.pinned (OpenSpec.upto wotsPublicSpec)

/-- 'liverylaw10.WotsSigns', WHERE WHAT IT READS IS OF BULK AT MOST 1048576: true; the input reads as it did. -/
def wotsSignsUptoRow : OpenClaim := { program := "ytkpeoplkldpmlaadoor", sum := "aa6f631f2e7bf8f14e4051ce9aedad722802d3fb7e8656e823e00592d11385c1", func := "livery/liverylaw10.WotsSigns", spec := "wotsSigns", unfollowed := true, recurses := true, named := ["livery/sha2.start", "livery/sha2.table"], apart := false, laid := [("livery/sha2.table", laid_livery_sha2_table), ("livery/sha2.start", laid_livery_sha2_start)], narrowed := true }
def WotsSignsUptoSaid : Prop := wotsSignsUptoRow.holds Tryd.pinned (OpenSpec.upto wotsSignsSpec)

/-- 'liverylaw07.LmotsOwn', WHERE WHAT IT READS IS OF BULK AT MOST 1048576: true; the input reads as it did. -/
def lmotsOwnUptoRow : OpenClaim := { program := "ytkpeoplkldpmlaadoor", sum := "aa6f631f2e7bf8f14e4051ce9aedad722802d3fb7e8656e823e00592d11385c1", func := "livery/liverylaw07.LmotsOwn", spec := "lmotsOwn", named := ["livery/sha2.start", "livery/sha2.table"], apart := false, laid := [("livery/sha2.table", laid_livery_sha2_table), ("livery/sha2.start", laid_livery_sha2_start)], narrowed := true }
def LmotsOwnUptoSaid : Prop := lmotsOwnUptoRow.holds Tryd.pinned (OpenSpec.upto lmotsOwnSpec)

/-- 'liverylaw10.WotsVerifies', WHERE WHAT IT READS IS OF BULK AT MOST 1048576: true; the input reads as it did. -/
def wotsVerifiesUptoRow : OpenClaim := { program := "ytkpeoplkldpmlaadoor", sum := "aa6f631f2e7bf8f14e4051ce9aedad722802d3fb7e8656e823e00592d11385c1", func := "livery/liverylaw10.WotsVerifies", spec := "wotsVerifies", unfollowed := true, recurses := true, named := ["livery/sha2.start", "livery/sha2.table"], apart := false, laid := [("livery/sha2.table", laid_livery_sha2_table), ("livery/sha2.start", laid_livery_sha2_start)], narrowed := true }
def WotsVerifiesUptoSaid : Prop := wotsVerifiesUptoRow.holds Tryd.pinned (OpenSpec.upto wotsVerifiesSpec)

/-- 'liverylaw11.XmssNone', WHERE WHAT IT READS IS OF BULK AT MOST 1048576: true; the input reads as it did. -/
def xmssNoneUptoRow : OpenClaim := { program := "ytkpeoplkldpmlaadoor", sum := "aa6f631f2e7bf8f14e4051ce9aedad722802d3fb7e8656e823e00592d11385c1", func := "livery/liverylaw11.XmssNone", spec := "xmssNone", unfollowed := true, recurses := true, named := ["livery/sha2.start", "livery/sha2.table"], apart := false, laid := [("livery/sha2.table", laid_livery_sha2_table), ("livery/sha2.start", laid_livery_sha2_start)], narrowed := true }
def XmssNoneUptoSaid : Prop := xmssNoneUptoRow.holds Tryd.pinned (OpenSpec.upto xmssNoneSpec)

/-- 'liverylaw08.LmsRight', WHERE WHAT IT READS IS OF BULK AT MOST 1048576: true; the input reads as it did. -/
def lmsRightUptoRow : OpenClaim := { program := "ytkpeoplkldpmlaadoor", sum := "aa6f631f2e7bf8f14e4051ce9aedad722802d3fb7e8656e823e00592d11385c1", func := "livery/liverylaw08.LmsRight", spec := "lmsRight", unfollowed := true, recurses := true, named := ["livery/sha2.start", "livery/sha2.table"], apart := false, laid := [("livery/sha2.table", laid_livery_sha2_table), ("livery/sha2.start", laid_livery_sha2_start)], narrowed := true }
def LmsRightUptoSaid : Prop := lmsRightUptoRow.holds Tryd.pinned (OpenSpec.upto lmsRightSpec)

/-- 'liverylaw08.LmsNone', WHERE WHAT IT READS IS OF BULK AT MOST 1048576: true; the input reads as it did. -/
def lmsNoneUptoRow : OpenClaim := { program := "ytkpeoplkldpmlaadoor", sum := "aa6f631f2e7bf8f14e4051ce9aedad722802d3fb7e8656e823e00592d11385c1", func := "livery/liverylaw08.LmsNone", spec := "lmsNone", unfollowed := true, recurses := true, named := ["livery/sha2.start", "livery/sha2.table"], apart := false, laid := [("livery/sha2.table", laid_livery_sha2_table), ("livery/sha2.start", laid_livery_sha2_start)], narrowed := true }
def LmsNoneUptoSaid : Prop := lmsNoneUptoRow.holds Tryd.pinned (OpenSpec.upto lmsNoneSpec)

end Rows
end Go.Proofs.YtkpeoplkldpmlaaDoor
