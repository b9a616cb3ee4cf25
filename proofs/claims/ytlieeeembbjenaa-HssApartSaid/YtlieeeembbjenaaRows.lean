/-
  No cell of these rows narrows 'for every input' (looked for: loops, veiled, ifaces, maps, wideKeys, modest, calm, conditions, laid).
  DERIVED. THE GIVEN ROWS OF THIS SEAT. 12 by the template 'for every input the law returns true; each argument reads behind the call as it read before'; 0 by the template 'total and deterministic' (their statements: YtlieeeembbjenaaTotals.lean).
  GIVEN WITH THE SEED: the statements are not yours to turn. If you find one false, say at which input.
  Laid BY PROGRAM, IN A SANDBOX (cutbox-rows.mjs): the forced cells as the released guide's own fill.sh prints them over the translation 0863ef3b46fbdce3… (all of the seat's roots in one cut). By AI agents, Wed Nov 11 2026. No macro, syntax, notation, axiom, sorry.
-/
import Derived.Test.YtlieeeembbjenaaChecked
import GoSem.Claim
import GoSem.ClaimJoined
import GoSem.ClaimMapViews
import Derived.JoinedTies
import Derived.KernelRfl
namespace Go.Proofs.Ytlieeeembbjenaa
/- THE CELL 'sum', in the pinned program and in every row, IS THE sha256 OF THE DUMP (.gsa) THAT YtlieeeembbjenaaProg.lean LOADS. Nothing in Lean hashes anything: it is a label: what it is worth is what the hold of that sum in a sandbox is worth. -/
noncomputable def Try.pinned : Pinned := { name := "ytlieeeembbjenaa", sum := "0863ef3b46fbdce3903cd9c3bf017cfd356915fd1a7f866ca89ae7edfd1e61bf", checked := Try.checked }
namespace Rows
def none {H : Type} : Left H := { results := [], args := [] }

/-- 'liverylaw07.LmotsDigits': WHATEVER THE INPUT: true; the input reads as it did. -/
def lmotsDigitsSpec : ChangeSpec := { name := "lmotsDigits", fn := fun _ => fun
  | [d1, d2, d3] => { results := [.lit (.bool true)], args := [d1, d2, d3] }
  | _ => none }
def lmotsDigitsRow : OpenClaim := { program := "ytlieeeembbjenaa", sum := "0863ef3b46fbdce3903cd9c3bf017cfd356915fd1a7f866ca89ae7edfd1e61bf", func := "livery/liverylaw07.LmotsDigits", spec := "lmotsDigits", apart := false }
def LmotsDigitsSaid : Prop := lmotsDigitsRow.holds Try.pinned (OpenSpec.ofChange lmotsDigitsSpec)

/-- ITS FALSE NEIGHBOUR: 'it returns false'. Refute it at one input. -/
def lmotsDigitsWrong : ChangeSpec := { name := "lmotsDigits", fn := fun _ => fun
  | [d1, d2, d3] => { results := [.lit (.bool false)], args := [d1, d2, d3] }
  | _ => none }
def LmotsDigitsWrongFalsely : Prop := lmotsDigitsRow.holds Try.pinned (OpenSpec.ofChange lmotsDigitsWrong)

/-- 'liverylaw07.LmotsWinternitz': WHATEVER THE INPUT: true; the input reads as it did. -/
def lmotsWinternitzSpec : ChangeSpec := { name := "lmotsWinternitz", fn := fun _ => fun
  | [d1, d2, d3] => { results := [.lit (.bool true)], args := [d1, d2, d3] }
  | _ => none }
def lmotsWinternitzRow : OpenClaim := { program := "ytlieeeembbjenaa", sum := "0863ef3b46fbdce3903cd9c3bf017cfd356915fd1a7f866ca89ae7edfd1e61bf", func := "livery/liverylaw07.LmotsWinternitz", spec := "lmotsWinternitz", apart := false }
def LmotsWinternitzSaid : Prop := lmotsWinternitzRow.holds Try.pinned (OpenSpec.ofChange lmotsWinternitzSpec)

/-- ITS FALSE NEIGHBOUR: 'it returns false'. Refute it at one input. -/
def lmotsWinternitzWrong : ChangeSpec := { name := "lmotsWinternitz", fn := fun _ => fun
  | [d1, d2, d3] => { results := [.lit (.bool false)], args := [d1, d2, d3] }
  | _ => none }
def LmotsWinternitzWrongFalsely : Prop := lmotsWinternitzRow.holds Try.pinned (OpenSpec.ofChange lmotsWinternitzWrong)

/-- 'liverylaw09.HssApart': WHATEVER THE INPUT: true; the input reads as it did. -/
def hssApartSpec : ChangeSpec := { name := "hssApart", fn := fun _ => fun
  | [d1, d2, d3] => { results := [.lit (.bool true)], args := [d1, d2, d3] }
  | _ => none }
def hssApartRow : OpenClaim := { program := "ytlieeeembbjenaa", sum := "0863ef3b46fbdce3903cd9c3bf017cfd356915fd1a7f866ca89ae7edfd1e61bf", func := "livery/liverylaw09.HssApart", spec := "hssApart", apart := false }
def HssApartSaid : Prop := hssApartRow.holds Try.pinned (OpenSpec.ofChange hssApartSpec)

/-- ITS FALSE NEIGHBOUR: 'it returns false'. Refute it at one input. -/
def hssApartWrong : ChangeSpec := { name := "hssApart", fn := fun _ => fun
  | [d1, d2, d3] => { results := [.lit (.bool false)], args := [d1, d2, d3] }
  | _ => none }
def HssApartWrongFalsely : Prop := hssApartRow.holds Try.pinned (OpenSpec.ofChange hssApartWrong)

/-- 'liverylaw03.KeccakPermutes': WHATEVER THE INPUT: true; the input reads as it did. -/
def keccakPermutesSpec : ChangeSpec := { name := "keccakPermutes", fn := fun _ => fun
  | [d] => { results := [.lit (.bool true)], args := [d] }
  | _ => none }
def keccakPermutesRow : OpenClaim := { program := "ytlieeeembbjenaa", sum := "0863ef3b46fbdce3903cd9c3bf017cfd356915fd1a7f866ca89ae7edfd1e61bf", func := "livery/liverylaw03.KeccakPermutes", spec := "keccakPermutes", apart := false }
def KeccakPermutesSaid : Prop := keccakPermutesRow.holds Try.pinned (OpenSpec.ofChange keccakPermutesSpec)

/-- ITS FALSE NEIGHBOUR: 'it returns false'. Refute it at one input. -/
def keccakPermutesWrong : ChangeSpec := { name := "keccakPermutes", fn := fun _ => fun
  | [d] => { results := [.lit (.bool false)], args := [d] }
  | _ => none }
def KeccakPermutesWrongFalsely : Prop := keccakPermutesRow.holds Try.pinned (OpenSpec.ofChange keccakPermutesWrong)

/-- 'liverylaw03.KeccakShakes': WHATEVER THE INPUT: true; the input reads as it did. -/
def keccakShakesSpec : ChangeSpec := { name := "keccakShakes", fn := fun _ => fun
  | [d1, d2, d3] => { results := [.lit (.bool true)], args := [d1, d2, d3] }
  | _ => none }
def keccakShakesRow : OpenClaim := { program := "ytlieeeembbjenaa", sum := "0863ef3b46fbdce3903cd9c3bf017cfd356915fd1a7f866ca89ae7edfd1e61bf", func := "livery/liverylaw03.KeccakShakes", spec := "keccakShakes", apart := false }
def KeccakShakesSaid : Prop := keccakShakesRow.holds Try.pinned (OpenSpec.ofChange keccakShakesSpec)

/-- ITS FALSE NEIGHBOUR: 'it returns false'. Refute it at one input. -/
def keccakShakesWrong : ChangeSpec := { name := "keccakShakes", fn := fun _ => fun
  | [d1, d2, d3] => { results := [.lit (.bool false)], args := [d1, d2, d3] }
  | _ => none }
def KeccakShakesWrongFalsely : Prop := keccakShakesRow.holds Try.pinned (OpenSpec.ofChange keccakShakesWrong)

/-- 'liverylaw03.KeccakLonger': WHATEVER THE INPUT: true; the input reads as it did. -/
def keccakLongerSpec : ChangeSpec := { name := "keccakLonger", fn := fun _ => fun
  | [d1, d2, d3, d4] => { results := [.lit (.bool true)], args := [d1, d2, d3, d4] }
  | _ => none }
def keccakLongerRow : OpenClaim := { program := "ytlieeeembbjenaa", sum := "0863ef3b46fbdce3903cd9c3bf017cfd356915fd1a7f866ca89ae7edfd1e61bf", func := "livery/liverylaw03.KeccakLonger", spec := "keccakLonger", apart := false }
def KeccakLongerSaid : Prop := keccakLongerRow.holds Try.pinned (OpenSpec.ofChange keccakLongerSpec)

/-- ITS FALSE NEIGHBOUR: 'it returns false'. Refute it at one input. -/
def keccakLongerWrong : ChangeSpec := { name := "keccakLonger", fn := fun _ => fun
  | [d1, d2, d3, d4] => { results := [.lit (.bool false)], args := [d1, d2, d3, d4] }
  | _ => none }
def KeccakLongerWrongFalsely : Prop := keccakLongerRow.holds Try.pinned (OpenSpec.ofChange keccakLongerWrong)

/-- 'liverylaw03.KeccakSponge': WHATEVER THE INPUT: true; the input reads as it did. -/
def keccakSpongeSpec : ChangeSpec := { name := "keccakSponge", fn := fun _ => fun
  | [d] => { results := [.lit (.bool true)], args := [d] }
  | _ => none }
def keccakSpongeRow : OpenClaim := { program := "ytlieeeembbjenaa", sum := "0863ef3b46fbdce3903cd9c3bf017cfd356915fd1a7f866ca89ae7edfd1e61bf", func := "livery/liverylaw03.KeccakSponge", spec := "keccakSponge", apart := false }
def KeccakSpongeSaid : Prop := keccakSpongeRow.holds Try.pinned (OpenSpec.ofChange keccakSpongeSpec)

/-- ITS FALSE NEIGHBOUR: 'it returns false'. Refute it at one input. -/
def keccakSpongeWrong : ChangeSpec := { name := "keccakSponge", fn := fun _ => fun
  | [d] => { results := [.lit (.bool false)], args := [d] }
  | _ => none }
def KeccakSpongeWrongFalsely : Prop := keccakSpongeRow.holds Try.pinned (OpenSpec.ofChange keccakSpongeWrong)

/-- 'liverylaw03.KeccakSums': WHATEVER THE INPUT: true; the input reads as it did. -/
def keccakSumsSpec : ChangeSpec := { name := "keccakSums", fn := fun _ => fun
  | [d] => { results := [.lit (.bool true)], args := [d] }
  | _ => none }
def keccakSumsRow : OpenClaim := { program := "ytlieeeembbjenaa", sum := "0863ef3b46fbdce3903cd9c3bf017cfd356915fd1a7f866ca89ae7edfd1e61bf", func := "livery/liverylaw03.KeccakSums", spec := "keccakSums", apart := false }
def KeccakSumsSaid : Prop := keccakSumsRow.holds Try.pinned (OpenSpec.ofChange keccakSumsSpec)

/-- ITS FALSE NEIGHBOUR: 'it returns false'. Refute it at one input. -/
def keccakSumsWrong : ChangeSpec := { name := "keccakSums", fn := fun _ => fun
  | [d] => { results := [.lit (.bool false)], args := [d] }
  | _ => none }
def KeccakSumsWrongFalsely : Prop := keccakSumsRow.holds Try.pinned (OpenSpec.ofChange keccakSumsWrong)

/-- 'liverylaw03.KeccakPieces': WHATEVER THE INPUT: true; the input reads as it did. -/
def keccakPiecesSpec : ChangeSpec := { name := "keccakPieces", fn := fun _ => fun
  | [d1, d2, d3] => { results := [.lit (.bool true)], args := [d1, d2, d3] }
  | _ => none }
def keccakPiecesRow : OpenClaim := { program := "ytlieeeembbjenaa", sum := "0863ef3b46fbdce3903cd9c3bf017cfd356915fd1a7f866ca89ae7edfd1e61bf", func := "livery/liverylaw03.KeccakPieces", spec := "keccakPieces", apart := false }
def KeccakPiecesSaid : Prop := keccakPiecesRow.holds Try.pinned (OpenSpec.ofChange keccakPiecesSpec)

/-- ITS FALSE NEIGHBOUR: 'it returns false'. Refute it at one input. -/
def keccakPiecesWrong : ChangeSpec := { name := "keccakPieces", fn := fun _ => fun
  | [d1, d2, d3] => { results := [.lit (.bool false)], args := [d1, d2, d3] }
  | _ => none }
def KeccakPiecesWrongFalsely : Prop := keccakPiecesRow.holds Try.pinned (OpenSpec.ofChange keccakPiecesWrong)

/-- 'liverylaw03.KeccakReads': WHATEVER THE INPUT: true; the input reads as it did. -/
def keccakReadsSpec : ChangeSpec := { name := "keccakReads", fn := fun _ => fun
  | [d1, d2, d3] => { results := [.lit (.bool true)], args := [d1, d2, d3] }
  | _ => none }
def keccakReadsRow : OpenClaim := { program := "ytlieeeembbjenaa", sum := "0863ef3b46fbdce3903cd9c3bf017cfd356915fd1a7f866ca89ae7edfd1e61bf", func := "livery/liverylaw03.KeccakReads", spec := "keccakReads", apart := false }
def KeccakReadsSaid : Prop := keccakReadsRow.holds Try.pinned (OpenSpec.ofChange keccakReadsSpec)

/-- ITS FALSE NEIGHBOUR: 'it returns false'. Refute it at one input. -/
def keccakReadsWrong : ChangeSpec := { name := "keccakReads", fn := fun _ => fun
  | [d1, d2, d3] => { results := [.lit (.bool false)], args := [d1, d2, d3] }
  | _ => none }
def KeccakReadsWrongFalsely : Prop := keccakReadsRow.holds Try.pinned (OpenSpec.ofChange keccakReadsWrong)

/-- 'liverylaw03.KeccakNone': WHATEVER THE INPUT: true; the input reads as it did. -/
def keccakNoneSpec : ChangeSpec := { name := "keccakNone", fn := fun _ => fun
  | [d] => { results := [.lit (.bool true)], args := [d] }
  | _ => none }
def keccakNoneRow : OpenClaim := { program := "ytlieeeembbjenaa", sum := "0863ef3b46fbdce3903cd9c3bf017cfd356915fd1a7f866ca89ae7edfd1e61bf", func := "livery/liverylaw03.KeccakNone", spec := "keccakNone", apart := false }
def KeccakNoneSaid : Prop := keccakNoneRow.holds Try.pinned (OpenSpec.ofChange keccakNoneSpec)

/-- ITS FALSE NEIGHBOUR: 'it returns false'. Refute it at one input. -/
def keccakNoneWrong : ChangeSpec := { name := "keccakNone", fn := fun _ => fun
  | [d] => { results := [.lit (.bool false)], args := [d] }
  | _ => none }
def KeccakNoneWrongFalsely : Prop := keccakNoneRow.holds Try.pinned (OpenSpec.ofChange keccakNoneWrong)

/-- 'liverylaw09.HssMays': WHATEVER THE INPUT: true; the input reads as it did. -/
def hssMaysSpec : ChangeSpec := { name := "hssMays", fn := fun _ => fun
  | [d] => { results := [.lit (.bool true)], args := [d] }
  | _ => none }
def hssMaysRow : OpenClaim := { program := "ytlieeeembbjenaa", sum := "0863ef3b46fbdce3903cd9c3bf017cfd356915fd1a7f866ca89ae7edfd1e61bf", func := "livery/liverylaw09.HssMays", spec := "hssMays", apart := false }
def HssMaysSaid : Prop := hssMaysRow.holds Try.pinned (OpenSpec.ofChange hssMaysSpec)

/-- ITS FALSE NEIGHBOUR: 'it returns false'. Refute it at one input. -/
def hssMaysWrong : ChangeSpec := { name := "hssMays", fn := fun _ => fun
  | [d] => { results := [.lit (.bool false)], args := [d] }
  | _ => none }
def HssMaysWrongFalsely : Prop := hssMaysRow.holds Try.pinned (OpenSpec.ofChange hssMaysWrong)

/- THE SECOND FORM. 'bulk': how many values and letters a reading holds, each counted each time it is reached (what is shared counts as often as it is met; a slice's spare places count too). A statement '..UptoSaid' is the law's where the arguments, and the package variables that the reading takes, are together of bulk at most 1048576: NARROWER than '..Said'. Prove '..Said' where nothing that the law and all that it calls make is longer than what came in: it says more and counts as full. Else prove '..UptoSaid'. A law counts once. -/
mutual
def uptoBulk {H : Type} : DataW H → Nat
  | .lit (.string bytes) => bytes.length + 1
  | .lit _ => 1
  | .nil => 1
  | .ptr d => uptoBulk d + 1
  | .slice elems spare => uptoBulkAll elems + uptoBulkAll spare + 1
  | .agg parts => uptoBulkAll parts + 1
  | .iface _ d => uptoBulk d + 1
  | .map entries => uptoBulkEntries entries + 1
  | .held _ => 1
def uptoBulkAll {H : Type} : List (DataW H) → Nat
  | [] => 0
  | d :: r => uptoBulk d + uptoBulkAll r
def uptoBulkEntries {H : Type} : List (Lit × DataW H) → Nat
  | [] => 0
  | x :: r => uptoBulkEntry x + uptoBulkEntries r
def uptoBulkEntry {H : Type} : Lit × DataW H → Nat
  | (.string bytes, d) => bytes.length + uptoBulk d + 1
  | (_, d) => uptoBulk d + 1
 end
def uptoSmall : (H : Type) → List (DataW H) → Bool := fun _ ds => decide (uptoBulkAll ds ≤ 1048576)
def OpenSpec.upto (s : _root_.Go.ChangeSpec) : _root_.Go.OpenSpec := { _root_.Go.OpenSpec.ofChange s with cond := some uptoSmall }

/-- 'liverylaw07.LmotsDigits', WHERE WHAT IT READS IS OF BULK AT MOST 1048576: true; the input reads as it did. -/
def lmotsDigitsUptoRow : OpenClaim := { program := "ytlieeeembbjenaa", sum := "0863ef3b46fbdce3903cd9c3bf017cfd356915fd1a7f866ca89ae7edfd1e61bf", func := "livery/liverylaw07.LmotsDigits", spec := "lmotsDigits", apart := false, narrowed := true }
def LmotsDigitsUptoSaid : Prop := lmotsDigitsUptoRow.holds Try.pinned (OpenSpec.upto lmotsDigitsSpec)

/-- 'liverylaw07.LmotsWinternitz', WHERE WHAT IT READS IS OF BULK AT MOST 1048576: true; the input reads as it did. -/
def lmotsWinternitzUptoRow : OpenClaim := { program := "ytlieeeembbjenaa", sum := "0863ef3b46fbdce3903cd9c3bf017cfd356915fd1a7f866ca89ae7edfd1e61bf", func := "livery/liverylaw07.LmotsWinternitz", spec := "lmotsWinternitz", apart := false, narrowed := true }
def LmotsWinternitzUptoSaid : Prop := lmotsWinternitzUptoRow.holds Try.pinned (OpenSpec.upto lmotsWinternitzSpec)

/-- 'liverylaw09.HssApart', WHERE WHAT IT READS IS OF BULK AT MOST 1048576: true; the input reads as it did. -/
def hssApartUptoRow : OpenClaim := { program := "ytlieeeembbjenaa", sum := "0863ef3b46fbdce3903cd9c3bf017cfd356915fd1a7f866ca89ae7edfd1e61bf", func := "livery/liverylaw09.HssApart", spec := "hssApart", apart := false, narrowed := true }
def HssApartUptoSaid : Prop := hssApartUptoRow.holds Try.pinned (OpenSpec.upto hssApartSpec)

/-- 'liverylaw03.KeccakPermutes', WHERE WHAT IT READS IS OF BULK AT MOST 1048576: true; the input reads as it did. -/
def keccakPermutesUptoRow : OpenClaim := { program := "ytlieeeembbjenaa", sum := "0863ef3b46fbdce3903cd9c3bf017cfd356915fd1a7f866ca89ae7edfd1e61bf", func := "livery/liverylaw03.KeccakPermutes", spec := "keccakPermutes", apart := false, narrowed := true }
def KeccakPermutesUptoSaid : Prop := keccakPermutesUptoRow.holds Try.pinned (OpenSpec.upto keccakPermutesSpec)

/-- 'liverylaw03.KeccakShakes', WHERE WHAT IT READS IS OF BULK AT MOST 1048576: true; the input reads as it did. -/
def keccakShakesUptoRow : OpenClaim := { program := "ytlieeeembbjenaa", sum := "0863ef3b46fbdce3903cd9c3bf017cfd356915fd1a7f866ca89ae7edfd1e61bf", func := "livery/liverylaw03.KeccakShakes", spec := "keccakShakes", apart := false, narrowed := true }
def KeccakShakesUptoSaid : Prop := keccakShakesUptoRow.holds Try.pinned (OpenSpec.upto keccakShakesSpec)

/-- 'liverylaw03.KeccakLonger', WHERE WHAT IT READS IS OF BULK AT MOST 1048576: true; the input reads as it did. -/
def keccakLongerUptoRow : OpenClaim := { program := "ytlieeeembbjenaa", sum := "0863ef3b46fbdce3903cd9c3bf017cfd356915fd1a7f866ca89ae7edfd1e61bf", func := "livery/liverylaw03.KeccakLonger", spec := "keccakLonger", apart := false, narrowed := true }
def KeccakLongerUptoSaid : Prop := keccakLongerUptoRow.holds Try.pinned (OpenSpec.upto keccakLongerSpec)

/-- 'liverylaw03.KeccakSponge', WHERE WHAT IT READS IS OF BULK AT MOST 1048576: true; the input reads as it did. -/
def keccakSpongeUptoRow : OpenClaim := { program := "ytlieeeembbjenaa", sum := "0863ef3b46fbdce3903cd9c3bf017cfd356915fd1a7f866ca89ae7edfd1e61bf", func := "livery/liverylaw03.KeccakSponge", spec := "keccakSponge", apart := false, narrowed := true }
def KeccakSpongeUptoSaid : Prop := keccakSpongeUptoRow.holds Try.pinned (OpenSpec.upto keccakSpongeSpec)

/-- 'liverylaw03.KeccakSums', WHERE WHAT IT READS IS OF BULK AT MOST 1048576: true; the input reads as it did. -/
def keccakSumsUptoRow : OpenClaim := { program := "ytlieeeembbjenaa", sum := "0863ef3b46fbdce3903cd9c3bf017cfd356915fd1a7f866ca89ae7edfd1e61bf", func := "livery/liverylaw03.KeccakSums", spec := "keccakSums", apart := false, narrowed := true }
def KeccakSumsUptoSaid : Prop := keccakSumsUptoRow.holds Try.pinned (OpenSpec.upto keccakSumsSpec)

/-- 'liverylaw03.KeccakPieces', WHERE WHAT IT READS IS OF BULK AT MOST 1048576: true; the input reads as it did. -/
def keccakPiecesUptoRow : OpenClaim := { program := "ytlieeeembbjenaa", sum := "0863ef3b46fbdce3903cd9c3bf017cfd356915fd1a7f866ca89ae7edfd1e61bf", func := "livery/liverylaw03.KeccakPieces", spec := "keccakPieces", apart := false, narrowed := true }
def KeccakPiecesUptoSaid : Prop := keccakPiecesUptoRow.holds Try.pinned (OpenSpec.upto keccakPiecesSpec)

/-- 'liverylaw03.KeccakReads', WHERE WHAT IT READS IS OF BULK AT MOST 1048576: true; the input reads as it did. -/
def keccakReadsUptoRow : OpenClaim := { program := "ytlieeeembbjenaa", sum := "0863ef3b46fbdce3903cd9c3bf017cfd356915fd1a7f866ca89ae7edfd1e61bf", func := "livery/liverylaw03.KeccakReads", spec := "keccakReads", apart := false, narrowed := true }
def KeccakReadsUptoSaid : Prop := keccakReadsUptoRow.holds Try.pinned (OpenSpec.upto keccakReadsSpec)

/-- 'liverylaw03.KeccakNone', WHERE WHAT IT READS IS OF BULK AT MOST 1048576: true; the input reads as it did. -/
def keccakNoneUptoRow : OpenClaim := { program := "ytlieeeembbjenaa", sum := "0863ef3b46fbdce3903cd9c3bf017cfd356915fd1a7f866ca89ae7edfd1e61bf", func := "livery/liverylaw03.KeccakNone", spec := "keccakNone", apart := false, narrowed := true }
def KeccakNoneUptoSaid : Prop := keccakNoneUptoRow.holds Try.pinned (OpenSpec.upto keccakNoneSpec)

/-- 'liverylaw09.HssMays', WHERE WHAT IT READS IS OF BULK AT MOST 1048576: true; the input reads as it did. -/
def hssMaysUptoRow : OpenClaim := { program := "ytlieeeembbjenaa", sum := "0863ef3b46fbdce3903cd9c3bf017cfd356915fd1a7f866ca89ae7edfd1e61bf", func := "livery/liverylaw09.HssMays", spec := "hssMays", apart := false, narrowed := true }
def HssMaysUptoSaid : Prop := hssMaysUptoRow.holds Try.pinned (OpenSpec.upto hssMaysSpec)

end Rows
end Go.Proofs.Ytlieeeembbjenaa
