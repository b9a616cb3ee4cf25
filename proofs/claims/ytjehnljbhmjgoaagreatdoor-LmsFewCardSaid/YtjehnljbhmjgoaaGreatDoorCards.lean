/-
  DERIVED. GIVEN WITH THE SEED: THE CARDS: each row of YtjehnljbhmjgoaaGreatDoorRows.lean that lists a variable, with what it lists TIED to the program's text (the seventh form; the later family's looks); each row that meets fmt, with fmt's text TOLD by the authors' own Lean function (tested against real Go, not proved from fmt's source: count such statements apart). THE CARD IS WHAT COUNTS. Prove the row's statement (the work); the ties are given (YtjehnljbhmjgoaaGreatDoorTie.lean); close each card by the builder's one call (the guide's Derived/Test/ToyasCard.lean, 'card_holds'). Laid BY PROGRAM, IN A SANDBOX (cutbox-door.mjs). By AI agents, Wed Nov 11 2026. No macro, syntax, notation, axiom, sorry.
-/
import Derived.Test.YtjehnljbhmjgoaaGreatDoorRows
import GoSem.ClaimSeven
namespace Go.Proofs.YtjehnljbhmjgoaaGreatDoor
namespace Rows

/-- THE TIED CARD OF 'liverylaw11.XmssGrows'. -/
def xmssGrowsCard : Claim7 := { stood := { row := xmssGrowsRow, standIns := [], harness := (true, "06509fc3e8edd468d53aaf23e62f6cca9f36ccdf5675f24a8db49316dc45e191"), looks := false }, kinds := [], alts := [], laidByText := true, laidKinds := [.data, .data], laidTests := true, laidLooks := .later }
def XmssGrowsCardSaid : Prop := Claim7.holds Tryz.pinned (.plain (OpenSpec.ofChange xmssGrowsSpec)) xmssGrowsCard

/-- THE TIED CARD OF 'liverylaw09.HssPublics'. -/
def hssPublicsCard : Claim7 := { stood := { row := hssPublicsRow, standIns := [], harness := (true, "06509fc3e8edd468d53aaf23e62f6cca9f36ccdf5675f24a8db49316dc45e191"), looks := false }, kinds := [], alts := [], laidByText := true, laidKinds := [.data, .data], laidTests := true, laidLooks := .later }
def HssPublicsCardSaid : Prop := Claim7.holds Tryz.pinned (.plain (OpenSpec.ofChange hssPublicsSpec)) hssPublicsCard

/-- THE TIED CARD OF 'liverylaw09.HssProves'. -/
def hssProvesCard : Claim7 := { stood := { row := hssProvesRow, standIns := [], harness := (true, "06509fc3e8edd468d53aaf23e62f6cca9f36ccdf5675f24a8db49316dc45e191"), looks := false }, kinds := [], alts := [], laidByText := true, laidKinds := [.data, .data], laidTests := true, laidLooks := .later }
def HssProvesCardSaid : Prop := Claim7.holds Tryz.pinned (.plain (OpenSpec.ofChange hssProvesSpec)) hssProvesCard

/-- THE TIED CARD OF 'liverylaw08.LmsSigns'. -/
def lmsSignsCard : Claim7 := { stood := { row := lmsSignsRow, standIns := [], harness := (true, "06509fc3e8edd468d53aaf23e62f6cca9f36ccdf5675f24a8db49316dc45e191"), looks := false }, kinds := [], alts := [], laidByText := true, laidKinds := [.data, .data], laidTests := true, laidLooks := .later }
def LmsSignsCardSaid : Prop := Claim7.holds Tryz.pinned (.plain (OpenSpec.ofChange lmsSignsSpec)) lmsSignsCard

/-- THE TIED CARD OF 'liverylaw08.LmsVerifies'. -/
def lmsVerifiesCard : Claim7 := { stood := { row := lmsVerifiesRow, standIns := [], harness := (true, "06509fc3e8edd468d53aaf23e62f6cca9f36ccdf5675f24a8db49316dc45e191"), looks := false }, kinds := [], alts := [], laidByText := true, laidKinds := [.data, .data], laidTests := true, laidLooks := .later }
def LmsVerifiesCardSaid : Prop := Claim7.holds Tryz.pinned (.plain (OpenSpec.ofChange lmsVerifiesSpec)) lmsVerifiesCard

/-- THE TIED CARD OF 'liverylaw08.LmsTrees'. -/
def lmsTreesCard : Claim7 := { stood := { row := lmsTreesRow, standIns := [], harness := (true, "06509fc3e8edd468d53aaf23e62f6cca9f36ccdf5675f24a8db49316dc45e191"), looks := false }, kinds := [], alts := [], laidByText := true, laidKinds := [.data, .data], laidTests := true, laidLooks := .later }
def LmsTreesCardSaid : Prop := Claim7.holds Tryz.pinned (.plain (OpenSpec.ofChange lmsTreesSpec)) lmsTreesCard

/-- THE TIED CARD OF 'liverylaw09.HssSigns'. -/
def hssSignsCard : Claim7 := { stood := { row := hssSignsRow, standIns := [], harness := (true, "06509fc3e8edd468d53aaf23e62f6cca9f36ccdf5675f24a8db49316dc45e191"), looks := false }, kinds := [], alts := [], laidByText := true, laidKinds := [.data, .data], laidTests := true, laidLooks := .later }
def HssSignsCardSaid : Prop := Claim7.holds Tryz.pinned (.plain (OpenSpec.ofChange hssSignsSpec)) hssSignsCard

/-- THE TIED CARD OF 'liverylaw09.HssChild'. -/
def hssChildCard : Claim7 := { stood := { row := hssChildRow, standIns := [], harness := (true, "06509fc3e8edd468d53aaf23e62f6cca9f36ccdf5675f24a8db49316dc45e191"), looks := false }, kinds := [], alts := [], laidByText := true, laidKinds := [.data, .data], laidTests := true, laidLooks := .later }
def HssChildCardSaid : Prop := Claim7.holds Tryz.pinned (.plain (OpenSpec.ofChange hssChildSpec)) hssChildCard

/-- THE TIED CARD OF 'liverylaw08.LmsGrows'. -/
def lmsGrowsCard : Claim7 := { stood := { row := lmsGrowsRow, standIns := [], harness := (true, "06509fc3e8edd468d53aaf23e62f6cca9f36ccdf5675f24a8db49316dc45e191"), looks := false }, kinds := [], alts := [], laidByText := true, laidKinds := [.data, .data], laidTests := true, laidLooks := .later }
def LmsGrowsCardSaid : Prop := Claim7.holds Tryz.pinned (.plain (OpenSpec.ofChange lmsGrowsSpec)) lmsGrowsCard

/-- THE TIED CARD OF 'liverylaw08.LmsFew'. -/
def lmsFewCard : Claim7 := { stood := { row := lmsFewRow, standIns := [], harness := (true, "06509fc3e8edd468d53aaf23e62f6cca9f36ccdf5675f24a8db49316dc45e191"), looks := false }, kinds := [], alts := [], laidByText := true, laidKinds := [.data, .data], laidTests := true, laidLooks := .later }
def LmsFewCardSaid : Prop := Claim7.holds Tryz.pinned (.plain (OpenSpec.ofChange lmsFewSpec)) lmsFewCard

/-- THE TIED CARD OF 'liverylaw08.LmsNodes'. -/
def lmsNodesCard : Claim7 := { stood := { row := lmsNodesRow, standIns := [], harness := (true, "06509fc3e8edd468d53aaf23e62f6cca9f36ccdf5675f24a8db49316dc45e191"), looks := false }, kinds := [], alts := [], laidByText := true, laidKinds := [.data, .data], laidTests := true, laidLooks := .later }
def LmsNodesCardSaid : Prop := Claim7.holds Tryz.pinned (.plain (OpenSpec.ofChange lmsNodesSpec)) lmsNodesCard

/-- THE TIED CARD OF 'liverylaw08.LmsUp'. -/
def lmsUpCard : Claim7 := { stood := { row := lmsUpRow, standIns := [], harness := (true, "06509fc3e8edd468d53aaf23e62f6cca9f36ccdf5675f24a8db49316dc45e191"), looks := false }, kinds := [], alts := [], laidByText := true, laidKinds := [.data, .data], laidTests := true, laidLooks := .later }
def LmsUpCardSaid : Prop := Claim7.holds Tryz.pinned (.plain (OpenSpec.ofChange lmsUpSpec)) lmsUpCard

/-- THE TIED CARD OF 'liverylaw09.HssOwn'. -/
def hssOwnCard : Claim7 := { stood := { row := hssOwnRow, standIns := [], harness := (true, "06509fc3e8edd468d53aaf23e62f6cca9f36ccdf5675f24a8db49316dc45e191"), looks := false }, kinds := [], alts := [], laidByText := true, laidKinds := [.data, .data], laidTests := true, laidLooks := .later }
def HssOwnCardSaid : Prop := Claim7.holds Tryz.pinned (.plain (OpenSpec.ofChange hssOwnSpec)) hssOwnCard

/-- THE SECOND FORM's CARD OF 'liverylaw11.XmssGrows'. -/
def xmssGrowsUptoCard : Claim7 := { stood := { row := xmssGrowsUptoRow, standIns := [], harness := (true, "06509fc3e8edd468d53aaf23e62f6cca9f36ccdf5675f24a8db49316dc45e191"), looks := false }, kinds := [], alts := [], laidByText := true, laidKinds := [.data, .data], laidTests := true, laidLooks := .later }
def XmssGrowsUptoCardSaid : Prop := Claim7.holds Tryz.pinned (.plain (OpenSpec.upto xmssGrowsSpec)) xmssGrowsUptoCard

/-- THE SECOND FORM's CARD OF 'liverylaw09.HssPublics'. -/
def hssPublicsUptoCard : Claim7 := { stood := { row := hssPublicsUptoRow, standIns := [], harness := (true, "06509fc3e8edd468d53aaf23e62f6cca9f36ccdf5675f24a8db49316dc45e191"), looks := false }, kinds := [], alts := [], laidByText := true, laidKinds := [.data, .data], laidTests := true, laidLooks := .later }
def HssPublicsUptoCardSaid : Prop := Claim7.holds Tryz.pinned (.plain (OpenSpec.upto hssPublicsSpec)) hssPublicsUptoCard

/-- THE SECOND FORM's CARD OF 'liverylaw09.HssProves'. -/
def hssProvesUptoCard : Claim7 := { stood := { row := hssProvesUptoRow, standIns := [], harness := (true, "06509fc3e8edd468d53aaf23e62f6cca9f36ccdf5675f24a8db49316dc45e191"), looks := false }, kinds := [], alts := [], laidByText := true, laidKinds := [.data, .data], laidTests := true, laidLooks := .later }
def HssProvesUptoCardSaid : Prop := Claim7.holds Tryz.pinned (.plain (OpenSpec.upto hssProvesSpec)) hssProvesUptoCard

/-- THE SECOND FORM's CARD OF 'liverylaw08.LmsSigns'. -/
def lmsSignsUptoCard : Claim7 := { stood := { row := lmsSignsUptoRow, standIns := [], harness := (true, "06509fc3e8edd468d53aaf23e62f6cca9f36ccdf5675f24a8db49316dc45e191"), looks := false }, kinds := [], alts := [], laidByText := true, laidKinds := [.data, .data], laidTests := true, laidLooks := .later }
def LmsSignsUptoCardSaid : Prop := Claim7.holds Tryz.pinned (.plain (OpenSpec.upto lmsSignsSpec)) lmsSignsUptoCard

/-- THE SECOND FORM's CARD OF 'liverylaw08.LmsVerifies'. -/
def lmsVerifiesUptoCard : Claim7 := { stood := { row := lmsVerifiesUptoRow, standIns := [], harness := (true, "06509fc3e8edd468d53aaf23e62f6cca9f36ccdf5675f24a8db49316dc45e191"), looks := false }, kinds := [], alts := [], laidByText := true, laidKinds := [.data, .data], laidTests := true, laidLooks := .later }
def LmsVerifiesUptoCardSaid : Prop := Claim7.holds Tryz.pinned (.plain (OpenSpec.upto lmsVerifiesSpec)) lmsVerifiesUptoCard

/-- THE SECOND FORM's CARD OF 'liverylaw08.LmsTrees'. -/
def lmsTreesUptoCard : Claim7 := { stood := { row := lmsTreesUptoRow, standIns := [], harness := (true, "06509fc3e8edd468d53aaf23e62f6cca9f36ccdf5675f24a8db49316dc45e191"), looks := false }, kinds := [], alts := [], laidByText := true, laidKinds := [.data, .data], laidTests := true, laidLooks := .later }
def LmsTreesUptoCardSaid : Prop := Claim7.holds Tryz.pinned (.plain (OpenSpec.upto lmsTreesSpec)) lmsTreesUptoCard

/-- THE SECOND FORM's CARD OF 'liverylaw09.HssSigns'. -/
def hssSignsUptoCard : Claim7 := { stood := { row := hssSignsUptoRow, standIns := [], harness := (true, "06509fc3e8edd468d53aaf23e62f6cca9f36ccdf5675f24a8db49316dc45e191"), looks := false }, kinds := [], alts := [], laidByText := true, laidKinds := [.data, .data], laidTests := true, laidLooks := .later }
def HssSignsUptoCardSaid : Prop := Claim7.holds Tryz.pinned (.plain (OpenSpec.upto hssSignsSpec)) hssSignsUptoCard

/-- THE SECOND FORM's CARD OF 'liverylaw09.HssChild'. -/
def hssChildUptoCard : Claim7 := { stood := { row := hssChildUptoRow, standIns := [], harness := (true, "06509fc3e8edd468d53aaf23e62f6cca9f36ccdf5675f24a8db49316dc45e191"), looks := false }, kinds := [], alts := [], laidByText := true, laidKinds := [.data, .data], laidTests := true, laidLooks := .later }
def HssChildUptoCardSaid : Prop := Claim7.holds Tryz.pinned (.plain (OpenSpec.upto hssChildSpec)) hssChildUptoCard

/-- THE SECOND FORM's CARD OF 'liverylaw08.LmsGrows'. -/
def lmsGrowsUptoCard : Claim7 := { stood := { row := lmsGrowsUptoRow, standIns := [], harness := (true, "06509fc3e8edd468d53aaf23e62f6cca9f36ccdf5675f24a8db49316dc45e191"), looks := false }, kinds := [], alts := [], laidByText := true, laidKinds := [.data, .data], laidTests := true, laidLooks := .later }
def LmsGrowsUptoCardSaid : Prop := Claim7.holds Tryz.pinned (.plain (OpenSpec.upto lmsGrowsSpec)) lmsGrowsUptoCard

/-- THE SECOND FORM's CARD OF 'liverylaw08.LmsFew'. -/
def lmsFewUptoCard : Claim7 := { stood := { row := lmsFewUptoRow, standIns := [], harness := (true, "06509fc3e8edd468d53aaf23e62f6cca9f36ccdf5675f24a8db49316dc45e191"), looks := false }, kinds := [], alts := [], laidByText := true, laidKinds := [.data, .data], laidTests := true, laidLooks := .later }
def LmsFewUptoCardSaid : Prop := Claim7.holds Tryz.pinned (.plain (OpenSpec.upto lmsFewSpec)) lmsFewUptoCard

/-- THE SECOND FORM's CARD OF 'liverylaw08.LmsNodes'. -/
def lmsNodesUptoCard : Claim7 := { stood := { row := lmsNodesUptoRow, standIns := [], harness := (true, "06509fc3e8edd468d53aaf23e62f6cca9f36ccdf5675f24a8db49316dc45e191"), looks := false }, kinds := [], alts := [], laidByText := true, laidKinds := [.data, .data], laidTests := true, laidLooks := .later }
def LmsNodesUptoCardSaid : Prop := Claim7.holds Tryz.pinned (.plain (OpenSpec.upto lmsNodesSpec)) lmsNodesUptoCard

/-- THE SECOND FORM's CARD OF 'liverylaw08.LmsUp'. -/
def lmsUpUptoCard : Claim7 := { stood := { row := lmsUpUptoRow, standIns := [], harness := (true, "06509fc3e8edd468d53aaf23e62f6cca9f36ccdf5675f24a8db49316dc45e191"), looks := false }, kinds := [], alts := [], laidByText := true, laidKinds := [.data, .data], laidTests := true, laidLooks := .later }
def LmsUpUptoCardSaid : Prop := Claim7.holds Tryz.pinned (.plain (OpenSpec.upto lmsUpSpec)) lmsUpUptoCard

/-- THE SECOND FORM's CARD OF 'liverylaw09.HssOwn'. -/
def hssOwnUptoCard : Claim7 := { stood := { row := hssOwnUptoRow, standIns := [], harness := (true, "06509fc3e8edd468d53aaf23e62f6cca9f36ccdf5675f24a8db49316dc45e191"), looks := false }, kinds := [], alts := [], laidByText := true, laidKinds := [.data, .data], laidTests := true, laidLooks := .later }
def HssOwnUptoCardSaid : Prop := Claim7.holds Tryz.pinned (.plain (OpenSpec.upto hssOwnSpec)) hssOwnUptoCard
end Rows
end Go.Proofs.YtjehnljbhmjgoaaGreatDoor
