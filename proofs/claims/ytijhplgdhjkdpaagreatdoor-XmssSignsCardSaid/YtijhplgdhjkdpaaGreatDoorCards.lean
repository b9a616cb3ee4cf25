/-
  DERIVED. GIVEN WITH THE SEED: THE CARDS: each row of YtijhplgdhjkdpaaGreatDoorRows.lean that lists a variable, with what it lists TIED to the program's text (the seventh form; the later family's looks); each row that meets fmt, with fmt's text TOLD by the authors' own Lean function (tested against real Go, not proved from fmt's source: count such statements apart). THE CARD IS WHAT COUNTS. Prove the row's statement (the work); the ties are given (YtijhplgdhjkdpaaGreatDoorTie.lean); close each card by the builder's one call (the guide's Derived/Test/ToyasCard.lean, 'card_holds'). Laid BY PROGRAM, IN A SANDBOX (cutbox-door.mjs). By AI agents, Wed Nov 11 2026. No macro, syntax, notation, axiom, sorry.
-/
import Derived.Test.YtijhplgdhjkdpaaGreatDoorRows
import GoSem.ClaimSeven
namespace Go.Proofs.YtijhplgdhjkdpaaGreatDoor
namespace Rows

/-- THE TIED CARD OF 'liverylaw11.XmssLeaves'. -/
def xmssLeavesCard : Claim7 := { stood := { row := xmssLeavesRow, standIns := [], harness := (true, "10a09baddbfcce9bd8a70ca77ac331f43d72abb69a0ea6a57f5a7428d7e74546"), looks := false }, kinds := [], alts := [], laidByText := true, laidKinds := [.data, .data], laidTests := true, laidLooks := .later }
def XmssLeavesCardSaid : Prop := Claim7.holds Tryz.pinned (.plain (OpenSpec.ofChange xmssLeavesSpec)) xmssLeavesCard

/-- THE TIED CARD OF 'liverylaw11.XmssUp'. -/
def xmssUpCard : Claim7 := { stood := { row := xmssUpRow, standIns := [], harness := (true, "10a09baddbfcce9bd8a70ca77ac331f43d72abb69a0ea6a57f5a7428d7e74546"), looks := false }, kinds := [], alts := [], laidByText := true, laidKinds := [.data, .data], laidTests := true, laidLooks := .later }
def XmssUpCardSaid : Prop := Claim7.holds Tryz.pinned (.plain (OpenSpec.ofChange xmssUpSpec)) xmssUpCard

/-- THE TIED CARD OF 'liverylaw11.XmssTrees'. -/
def xmssTreesCard : Claim7 := { stood := { row := xmssTreesRow, standIns := [], harness := (true, "10a09baddbfcce9bd8a70ca77ac331f43d72abb69a0ea6a57f5a7428d7e74546"), looks := false }, kinds := [], alts := [], laidByText := true, laidKinds := [.data, .data], laidTests := true, laidLooks := .later }
def XmssTreesCardSaid : Prop := Claim7.holds Tryz.pinned (.plain (OpenSpec.ofChange xmssTreesSpec)) xmssTreesCard

/-- THE TIED CARD OF 'liverylaw11.XmssSigns'. -/
def xmssSignsCard : Claim7 := { stood := { row := xmssSignsRow, standIns := [], harness := (true, "10a09baddbfcce9bd8a70ca77ac331f43d72abb69a0ea6a57f5a7428d7e74546"), looks := false }, kinds := [], alts := [], laidByText := true, laidKinds := [.data, .data], laidTests := true, laidLooks := .later }
def XmssSignsCardSaid : Prop := Claim7.holds Tryz.pinned (.plain (OpenSpec.ofChange xmssSignsSpec)) xmssSignsCard

/-- THE TIED CARD OF 'liverylaw11.XmssGrows'. -/
def xmssGrowsCard : Claim7 := { stood := { row := xmssGrowsRow, standIns := [], harness := (true, "10a09baddbfcce9bd8a70ca77ac331f43d72abb69a0ea6a57f5a7428d7e74546"), looks := false }, kinds := [], alts := [], laidByText := true, laidKinds := [.data, .data], laidTests := true, laidLooks := .later }
def XmssGrowsCardSaid : Prop := Claim7.holds Tryz.pinned (.plain (OpenSpec.ofChange xmssGrowsSpec)) xmssGrowsCard

/-- THE TIED CARD OF 'liverylaw11.XmssProves'. -/
def xmssProvesCard : Claim7 := { stood := { row := xmssProvesRow, standIns := [], harness := (true, "10a09baddbfcce9bd8a70ca77ac331f43d72abb69a0ea6a57f5a7428d7e74546"), looks := false }, kinds := [], alts := [], laidByText := true, laidKinds := [.data, .data], laidTests := true, laidLooks := .later }
def XmssProvesCardSaid : Prop := Claim7.holds Tryz.pinned (.plain (OpenSpec.ofChange xmssProvesSpec)) xmssProvesCard

/-- THE TIED CARD OF 'liverylaw11.XmssOwn'. -/
def xmssOwnCard : Claim7 := { stood := { row := xmssOwnRow, standIns := [], harness := (true, "10a09baddbfcce9bd8a70ca77ac331f43d72abb69a0ea6a57f5a7428d7e74546"), looks := false }, kinds := [], alts := [], laidByText := true, laidKinds := [.data, .data], laidTests := true, laidLooks := .later }
def XmssOwnCardSaid : Prop := Claim7.holds Tryz.pinned (.plain (OpenSpec.ofChange xmssOwnSpec)) xmssOwnCard

/-- THE SECOND FORM's CARD OF 'liverylaw11.XmssLeaves'. -/
def xmssLeavesUptoCard : Claim7 := { stood := { row := xmssLeavesUptoRow, standIns := [], harness := (true, "10a09baddbfcce9bd8a70ca77ac331f43d72abb69a0ea6a57f5a7428d7e74546"), looks := false }, kinds := [], alts := [], laidByText := true, laidKinds := [.data, .data], laidTests := true, laidLooks := .later }
def XmssLeavesUptoCardSaid : Prop := Claim7.holds Tryz.pinned (.plain (OpenSpec.upto xmssLeavesSpec)) xmssLeavesUptoCard

/-- THE SECOND FORM's CARD OF 'liverylaw11.XmssUp'. -/
def xmssUpUptoCard : Claim7 := { stood := { row := xmssUpUptoRow, standIns := [], harness := (true, "10a09baddbfcce9bd8a70ca77ac331f43d72abb69a0ea6a57f5a7428d7e74546"), looks := false }, kinds := [], alts := [], laidByText := true, laidKinds := [.data, .data], laidTests := true, laidLooks := .later }
def XmssUpUptoCardSaid : Prop := Claim7.holds Tryz.pinned (.plain (OpenSpec.upto xmssUpSpec)) xmssUpUptoCard

/-- THE SECOND FORM's CARD OF 'liverylaw11.XmssTrees'. -/
def xmssTreesUptoCard : Claim7 := { stood := { row := xmssTreesUptoRow, standIns := [], harness := (true, "10a09baddbfcce9bd8a70ca77ac331f43d72abb69a0ea6a57f5a7428d7e74546"), looks := false }, kinds := [], alts := [], laidByText := true, laidKinds := [.data, .data], laidTests := true, laidLooks := .later }
def XmssTreesUptoCardSaid : Prop := Claim7.holds Tryz.pinned (.plain (OpenSpec.upto xmssTreesSpec)) xmssTreesUptoCard

/-- THE SECOND FORM's CARD OF 'liverylaw11.XmssSigns'. -/
def xmssSignsUptoCard : Claim7 := { stood := { row := xmssSignsUptoRow, standIns := [], harness := (true, "10a09baddbfcce9bd8a70ca77ac331f43d72abb69a0ea6a57f5a7428d7e74546"), looks := false }, kinds := [], alts := [], laidByText := true, laidKinds := [.data, .data], laidTests := true, laidLooks := .later }
def XmssSignsUptoCardSaid : Prop := Claim7.holds Tryz.pinned (.plain (OpenSpec.upto xmssSignsSpec)) xmssSignsUptoCard

/-- THE SECOND FORM's CARD OF 'liverylaw11.XmssGrows'. -/
def xmssGrowsUptoCard : Claim7 := { stood := { row := xmssGrowsUptoRow, standIns := [], harness := (true, "10a09baddbfcce9bd8a70ca77ac331f43d72abb69a0ea6a57f5a7428d7e74546"), looks := false }, kinds := [], alts := [], laidByText := true, laidKinds := [.data, .data], laidTests := true, laidLooks := .later }
def XmssGrowsUptoCardSaid : Prop := Claim7.holds Tryz.pinned (.plain (OpenSpec.upto xmssGrowsSpec)) xmssGrowsUptoCard

/-- THE SECOND FORM's CARD OF 'liverylaw11.XmssProves'. -/
def xmssProvesUptoCard : Claim7 := { stood := { row := xmssProvesUptoRow, standIns := [], harness := (true, "10a09baddbfcce9bd8a70ca77ac331f43d72abb69a0ea6a57f5a7428d7e74546"), looks := false }, kinds := [], alts := [], laidByText := true, laidKinds := [.data, .data], laidTests := true, laidLooks := .later }
def XmssProvesUptoCardSaid : Prop := Claim7.holds Tryz.pinned (.plain (OpenSpec.upto xmssProvesSpec)) xmssProvesUptoCard

/-- THE SECOND FORM's CARD OF 'liverylaw11.XmssOwn'. -/
def xmssOwnUptoCard : Claim7 := { stood := { row := xmssOwnUptoRow, standIns := [], harness := (true, "10a09baddbfcce9bd8a70ca77ac331f43d72abb69a0ea6a57f5a7428d7e74546"), looks := false }, kinds := [], alts := [], laidByText := true, laidKinds := [.data, .data], laidTests := true, laidLooks := .later }
def XmssOwnUptoCardSaid : Prop := Claim7.holds Tryz.pinned (.plain (OpenSpec.upto xmssOwnSpec)) xmssOwnUptoCard
end Rows
end Go.Proofs.YtijhplgdhjkdpaaGreatDoor
