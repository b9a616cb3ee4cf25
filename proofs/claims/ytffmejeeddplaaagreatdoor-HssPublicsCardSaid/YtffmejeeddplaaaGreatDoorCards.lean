/-
  DERIVED. GIVEN WITH THE SEED: THE CARDS: each row of YtffmejeeddplaaaGreatDoorRows.lean that lists a variable, with what it lists TIED to the program's text (the seventh form; the later family's looks); each row that meets fmt, with fmt's text TOLD by the authors' own Lean function (tested against real Go, not proved from fmt's source: count such statements apart). THE CARD IS WHAT COUNTS. Prove the row's statement (the work); the ties are given (YtffmejeeddplaaaGreatDoorTie.lean); close each card by the builder's one call (the guide's Derived/Test/ToyasCard.lean, 'card_holds'). Laid BY PROGRAM, IN A SANDBOX (cutbox-door.mjs). By AI agents, Wed Nov 11 2026. No macro, syntax, notation, axiom, sorry.
-/
import Derived.Test.YtffmejeeddplaaaGreatDoorRows
import GoSem.ClaimSeven
namespace Go.Proofs.YtffmejeeddplaaaGreatDoor
namespace Rows

/-- THE TIED CARD OF 'liverylaw12.HbsSigns'. -/
def hbsSignsCard : Claim7 := { stood := { row := hbsSignsRow, standIns := [], harness := (true, "747d82a0a5265232487af1ee6fa18fc74b5868772a687c7f83e4b145b463f99a"), looks := false }, kinds := [], alts := [], laidByText := true, laidKinds := [.data, .data], laidTests := true, laidLooks := .later }
def HbsSignsCardSaid : Prop := Claim7.holds Tryz.pinned (.plain (OpenSpec.ofChange hbsSignsSpec)) hbsSignsCard

/-- THE TIED CARD OF 'liverylaw12.HbsBytes'. -/
def hbsBytesCard : Claim7 := { stood := { row := hbsBytesRow, standIns := [], harness := (true, "747d82a0a5265232487af1ee6fa18fc74b5868772a687c7f83e4b145b463f99a"), looks := false }, kinds := [], alts := [], laidByText := true, laidKinds := [.data, .data], laidTests := true, laidLooks := .later }
def HbsBytesCardSaid : Prop := Claim7.holds Tryz.pinned (.plain (OpenSpec.ofChange hbsBytesSpec)) hbsBytesCard

/-- THE TIED CARD OF 'liverylaw09.HssPublics'. -/
def hssPublicsCard : Claim7 := { stood := { row := hssPublicsRow, standIns := [], harness := (true, "747d82a0a5265232487af1ee6fa18fc74b5868772a687c7f83e4b145b463f99a"), looks := false }, kinds := [], alts := [], laidByText := true, laidKinds := [.data, .data], laidTests := true, laidLooks := .later }
def HssPublicsCardSaid : Prop := Claim7.holds Tryz.pinned (.plain (OpenSpec.ofChange hssPublicsSpec)) hssPublicsCard

/-- THE TIED CARD OF 'liverylaw09.HssProves'. -/
def hssProvesCard : Claim7 := { stood := { row := hssProvesRow, standIns := [], harness := (true, "747d82a0a5265232487af1ee6fa18fc74b5868772a687c7f83e4b145b463f99a"), looks := false }, kinds := [], alts := [], laidByText := true, laidKinds := [.data, .data], laidTests := true, laidLooks := .later }
def HssProvesCardSaid : Prop := Claim7.holds Tryz.pinned (.plain (OpenSpec.ofChange hssProvesSpec)) hssProvesCard

/-- THE TIED CARD OF 'liverylaw09.HssSigns'. -/
def hssSignsCard : Claim7 := { stood := { row := hssSignsRow, standIns := [], harness := (true, "747d82a0a5265232487af1ee6fa18fc74b5868772a687c7f83e4b145b463f99a"), looks := false }, kinds := [], alts := [], laidByText := true, laidKinds := [.data, .data], laidTests := true, laidLooks := .later }
def HssSignsCardSaid : Prop := Claim7.holds Tryz.pinned (.plain (OpenSpec.ofChange hssSignsSpec)) hssSignsCard

/-- THE TIED CARD OF 'liverylaw09.HssChild'. -/
def hssChildCard : Claim7 := { stood := { row := hssChildRow, standIns := [], harness := (true, "747d82a0a5265232487af1ee6fa18fc74b5868772a687c7f83e4b145b463f99a"), looks := false }, kinds := [], alts := [], laidByText := true, laidKinds := [.data, .data], laidTests := true, laidLooks := .later }
def HssChildCardSaid : Prop := Claim7.holds Tryz.pinned (.plain (OpenSpec.ofChange hssChildSpec)) hssChildCard

/-- THE TIED CARD OF 'liverylaw09.HssOwn'. -/
def hssOwnCard : Claim7 := { stood := { row := hssOwnRow, standIns := [], harness := (true, "747d82a0a5265232487af1ee6fa18fc74b5868772a687c7f83e4b145b463f99a"), looks := false }, kinds := [], alts := [], laidByText := true, laidKinds := [.data, .data], laidTests := true, laidLooks := .later }
def HssOwnCardSaid : Prop := Claim7.holds Tryz.pinned (.plain (OpenSpec.ofChange hssOwnSpec)) hssOwnCard

/-- THE TIED CARD OF 'liverylaw12.HbsMakes'. -/
def hbsMakesCard : Claim7 := { stood := { row := hbsMakesRow, standIns := [], harness := (true, "747d82a0a5265232487af1ee6fa18fc74b5868772a687c7f83e4b145b463f99a"), looks := false }, kinds := [], alts := [], laidByText := true, laidKinds := [.data, .data], laidTests := true, laidLooks := .later }
def HbsMakesCardSaid : Prop := Claim7.holds Tryz.pinned (.plain (OpenSpec.ofChange hbsMakesSpec)) hbsMakesCard

/-- THE TIED CARD OF 'liverylaw12.HbsVerifies'. -/
def hbsVerifiesCard : Claim7 := { stood := { row := hbsVerifiesRow, standIns := [], harness := (true, "747d82a0a5265232487af1ee6fa18fc74b5868772a687c7f83e4b145b463f99a"), looks := false }, kinds := [], alts := [], laidByText := true, laidKinds := [.data, .data], laidTests := true, laidLooks := .later }
def HbsVerifiesCardSaid : Prop := Claim7.holds Tryz.pinned (.plain (OpenSpec.ofChange hbsVerifiesSpec)) hbsVerifiesCard

/-- THE TIED CARD OF 'liverylaw12.HbsNumbers'. -/
def hbsNumbersCard : Claim7 := { stood := { row := hbsNumbersRow, standIns := [], harness := (true, "747d82a0a5265232487af1ee6fa18fc74b5868772a687c7f83e4b145b463f99a"), looks := false }, kinds := [], alts := [], laidByText := true, laidKinds := [.data, .data], laidTests := true, laidLooks := .later }
def HbsNumbersCardSaid : Prop := Claim7.holds Tryz.pinned (.plain (OpenSpec.ofChange hbsNumbersSpec)) hbsNumbersCard

/-- THE TIED CARD OF 'liverylaw12.HbsRight'. -/
def hbsRightCard : Claim7 := { stood := { row := hbsRightRow, standIns := [], harness := (true, "747d82a0a5265232487af1ee6fa18fc74b5868772a687c7f83e4b145b463f99a"), looks := false }, kinds := [], alts := [], laidByText := true, laidKinds := [.data, .data], laidTests := true, laidLooks := .later }
def HbsRightCardSaid : Prop := Claim7.holds Tryz.pinned (.plain (OpenSpec.ofChange hbsRightSpec)) hbsRightCard

/-- THE SECOND FORM's CARD OF 'liverylaw12.HbsSigns'. -/
def hbsSignsUptoCard : Claim7 := { stood := { row := hbsSignsUptoRow, standIns := [], harness := (true, "747d82a0a5265232487af1ee6fa18fc74b5868772a687c7f83e4b145b463f99a"), looks := false }, kinds := [], alts := [], laidByText := true, laidKinds := [.data, .data], laidTests := true, laidLooks := .later }
def HbsSignsUptoCardSaid : Prop := Claim7.holds Tryz.pinned (.plain (OpenSpec.upto hbsSignsSpec)) hbsSignsUptoCard

/-- THE SECOND FORM's CARD OF 'liverylaw12.HbsBytes'. -/
def hbsBytesUptoCard : Claim7 := { stood := { row := hbsBytesUptoRow, standIns := [], harness := (true, "747d82a0a5265232487af1ee6fa18fc74b5868772a687c7f83e4b145b463f99a"), looks := false }, kinds := [], alts := [], laidByText := true, laidKinds := [.data, .data], laidTests := true, laidLooks := .later }
def HbsBytesUptoCardSaid : Prop := Claim7.holds Tryz.pinned (.plain (OpenSpec.upto hbsBytesSpec)) hbsBytesUptoCard

/-- THE SECOND FORM's CARD OF 'liverylaw09.HssPublics'. -/
def hssPublicsUptoCard : Claim7 := { stood := { row := hssPublicsUptoRow, standIns := [], harness := (true, "747d82a0a5265232487af1ee6fa18fc74b5868772a687c7f83e4b145b463f99a"), looks := false }, kinds := [], alts := [], laidByText := true, laidKinds := [.data, .data], laidTests := true, laidLooks := .later }
def HssPublicsUptoCardSaid : Prop := Claim7.holds Tryz.pinned (.plain (OpenSpec.upto hssPublicsSpec)) hssPublicsUptoCard

/-- THE SECOND FORM's CARD OF 'liverylaw09.HssProves'. -/
def hssProvesUptoCard : Claim7 := { stood := { row := hssProvesUptoRow, standIns := [], harness := (true, "747d82a0a5265232487af1ee6fa18fc74b5868772a687c7f83e4b145b463f99a"), looks := false }, kinds := [], alts := [], laidByText := true, laidKinds := [.data, .data], laidTests := true, laidLooks := .later }
def HssProvesUptoCardSaid : Prop := Claim7.holds Tryz.pinned (.plain (OpenSpec.upto hssProvesSpec)) hssProvesUptoCard

/-- THE SECOND FORM's CARD OF 'liverylaw09.HssSigns'. -/
def hssSignsUptoCard : Claim7 := { stood := { row := hssSignsUptoRow, standIns := [], harness := (true, "747d82a0a5265232487af1ee6fa18fc74b5868772a687c7f83e4b145b463f99a"), looks := false }, kinds := [], alts := [], laidByText := true, laidKinds := [.data, .data], laidTests := true, laidLooks := .later }
def HssSignsUptoCardSaid : Prop := Claim7.holds Tryz.pinned (.plain (OpenSpec.upto hssSignsSpec)) hssSignsUptoCard

/-- THE SECOND FORM's CARD OF 'liverylaw09.HssChild'. -/
def hssChildUptoCard : Claim7 := { stood := { row := hssChildUptoRow, standIns := [], harness := (true, "747d82a0a5265232487af1ee6fa18fc74b5868772a687c7f83e4b145b463f99a"), looks := false }, kinds := [], alts := [], laidByText := true, laidKinds := [.data, .data], laidTests := true, laidLooks := .later }
def HssChildUptoCardSaid : Prop := Claim7.holds Tryz.pinned (.plain (OpenSpec.upto hssChildSpec)) hssChildUptoCard

/-- THE SECOND FORM's CARD OF 'liverylaw09.HssOwn'. -/
def hssOwnUptoCard : Claim7 := { stood := { row := hssOwnUptoRow, standIns := [], harness := (true, "747d82a0a5265232487af1ee6fa18fc74b5868772a687c7f83e4b145b463f99a"), looks := false }, kinds := [], alts := [], laidByText := true, laidKinds := [.data, .data], laidTests := true, laidLooks := .later }
def HssOwnUptoCardSaid : Prop := Claim7.holds Tryz.pinned (.plain (OpenSpec.upto hssOwnSpec)) hssOwnUptoCard

/-- THE SECOND FORM's CARD OF 'liverylaw12.HbsMakes'. -/
def hbsMakesUptoCard : Claim7 := { stood := { row := hbsMakesUptoRow, standIns := [], harness := (true, "747d82a0a5265232487af1ee6fa18fc74b5868772a687c7f83e4b145b463f99a"), looks := false }, kinds := [], alts := [], laidByText := true, laidKinds := [.data, .data], laidTests := true, laidLooks := .later }
def HbsMakesUptoCardSaid : Prop := Claim7.holds Tryz.pinned (.plain (OpenSpec.upto hbsMakesSpec)) hbsMakesUptoCard

/-- THE SECOND FORM's CARD OF 'liverylaw12.HbsVerifies'. -/
def hbsVerifiesUptoCard : Claim7 := { stood := { row := hbsVerifiesUptoRow, standIns := [], harness := (true, "747d82a0a5265232487af1ee6fa18fc74b5868772a687c7f83e4b145b463f99a"), looks := false }, kinds := [], alts := [], laidByText := true, laidKinds := [.data, .data], laidTests := true, laidLooks := .later }
def HbsVerifiesUptoCardSaid : Prop := Claim7.holds Tryz.pinned (.plain (OpenSpec.upto hbsVerifiesSpec)) hbsVerifiesUptoCard

/-- THE SECOND FORM's CARD OF 'liverylaw12.HbsNumbers'. -/
def hbsNumbersUptoCard : Claim7 := { stood := { row := hbsNumbersUptoRow, standIns := [], harness := (true, "747d82a0a5265232487af1ee6fa18fc74b5868772a687c7f83e4b145b463f99a"), looks := false }, kinds := [], alts := [], laidByText := true, laidKinds := [.data, .data], laidTests := true, laidLooks := .later }
def HbsNumbersUptoCardSaid : Prop := Claim7.holds Tryz.pinned (.plain (OpenSpec.upto hbsNumbersSpec)) hbsNumbersUptoCard

/-- THE SECOND FORM's CARD OF 'liverylaw12.HbsRight'. -/
def hbsRightUptoCard : Claim7 := { stood := { row := hbsRightUptoRow, standIns := [], harness := (true, "747d82a0a5265232487af1ee6fa18fc74b5868772a687c7f83e4b145b463f99a"), looks := false }, kinds := [], alts := [], laidByText := true, laidKinds := [.data, .data], laidTests := true, laidLooks := .later }
def HbsRightUptoCardSaid : Prop := Claim7.holds Tryz.pinned (.plain (OpenSpec.upto hbsRightSpec)) hbsRightUptoCard
end Rows
end Go.Proofs.YtffmejeeddplaaaGreatDoor
