/-
  DERIVED. GIVEN WITH THE SEED: THE CARDS: each row of YtjenbilhieomoaaDoorRows.lean that lists a variable, with what it lists TIED to the program's text (the seventh form; the later family's looks); each row that meets fmt, with fmt's text TOLD by the authors' own Lean function (tested against real Go, not proved from fmt's source: count such statements apart). THE CARD IS WHAT COUNTS. Prove the row's statement (the work); the ties are given (YtjenbilhieomoaaDoorTie.lean); close each card by the builder's one call (the guide's Derived/Test/ToyasCard.lean, 'card_holds'). Laid BY PROGRAM, IN A SANDBOX (cutbox-door.mjs). By AI agents, Wed Nov 11 2026. No macro, syntax, notation, axiom, sorry.
-/
import Derived.Test.YtjenbilhieomoaaDoorRows
import GoSem.ClaimSeven
namespace Go.Proofs.YtjenbilhieomoaaDoor
namespace Rows

/-- THE TIED CARD OF 'liverylaw07.LmotsOwn'. -/
def lmotsOwnCard : Claim7 := { stood := { row := lmotsOwnRow, standIns := [], harness := (true, "77fbf97f8dcd6777025d1166debc5f45b1d8c08e7b13a151211c56bedb9783ca"), looks := false }, kinds := [], alts := [], laidByText := true, laidKinds := [.data, .data], laidTests := true, laidLooks := .later }
def LmotsOwnCardSaid : Prop := Claim7.holds Tryd.pinned (.plain (OpenSpec.ofChange lmotsOwnSpec)) lmotsOwnCard

/-- THE TIED CARD OF 'liverylaw08.LmsRight'. -/
def lmsRightCard : Claim7 := { stood := { row := lmsRightRow, standIns := [], harness := (true, "77fbf97f8dcd6777025d1166debc5f45b1d8c08e7b13a151211c56bedb9783ca"), looks := false }, kinds := [], alts := [], laidByText := true, laidKinds := [.data, .data], laidTests := true, laidLooks := .later }
def LmsRightCardSaid : Prop := Claim7.holds Tryd.pinned (.plain (OpenSpec.ofChange lmsRightSpec)) lmsRightCard

/-- THE TIED CARD OF 'liverylaw08.LmsNone'. -/
def lmsNoneCard : Claim7 := { stood := { row := lmsNoneRow, standIns := [], harness := (true, "77fbf97f8dcd6777025d1166debc5f45b1d8c08e7b13a151211c56bedb9783ca"), looks := false }, kinds := [], alts := [], laidByText := true, laidKinds := [.data, .data], laidTests := true, laidLooks := .later }
def LmsNoneCardSaid : Prop := Claim7.holds Tryd.pinned (.plain (OpenSpec.ofChange lmsNoneSpec)) lmsNoneCard

/-- THE SECOND FORM's CARD OF 'liverylaw07.LmotsOwn'. -/
def lmotsOwnUptoCard : Claim7 := { stood := { row := lmotsOwnUptoRow, standIns := [], harness := (true, "77fbf97f8dcd6777025d1166debc5f45b1d8c08e7b13a151211c56bedb9783ca"), looks := false }, kinds := [], alts := [], laidByText := true, laidKinds := [.data, .data], laidTests := true, laidLooks := .later }
def LmotsOwnUptoCardSaid : Prop := Claim7.holds Tryd.pinned (.plain (OpenSpec.upto lmotsOwnSpec)) lmotsOwnUptoCard

/-- THE SECOND FORM's CARD OF 'liverylaw08.LmsRight'. -/
def lmsRightUptoCard : Claim7 := { stood := { row := lmsRightUptoRow, standIns := [], harness := (true, "77fbf97f8dcd6777025d1166debc5f45b1d8c08e7b13a151211c56bedb9783ca"), looks := false }, kinds := [], alts := [], laidByText := true, laidKinds := [.data, .data], laidTests := true, laidLooks := .later }
def LmsRightUptoCardSaid : Prop := Claim7.holds Tryd.pinned (.plain (OpenSpec.upto lmsRightSpec)) lmsRightUptoCard

/-- THE SECOND FORM's CARD OF 'liverylaw08.LmsNone'. -/
def lmsNoneUptoCard : Claim7 := { stood := { row := lmsNoneUptoRow, standIns := [], harness := (true, "77fbf97f8dcd6777025d1166debc5f45b1d8c08e7b13a151211c56bedb9783ca"), looks := false }, kinds := [], alts := [], laidByText := true, laidKinds := [.data, .data], laidTests := true, laidLooks := .later }
def LmsNoneUptoCardSaid : Prop := Claim7.holds Tryd.pinned (.plain (OpenSpec.upto lmsNoneSpec)) lmsNoneUptoCard
end Rows
end Go.Proofs.YtjenbilhieomoaaDoor
