/-
  DERIVED. GIVEN WITH THE SEED: THE CARDS: each row of YtmpfooekljbhhaaDoorRows.lean that lists a variable, with what it lists TIED to the program's text (the seventh form; the later family's looks); each row that meets fmt, with fmt's text TOLD by the authors' own Lean function (tested against real Go, not proved from fmt's source: count such statements apart). THE CARD IS WHAT COUNTS. Prove the row's statement (the work); the ties are given (YtmpfooekljbhhaaDoorTie.lean); close each card by the builder's one call (the guide's Derived/Test/ToyasCard.lean, 'card_holds'). Laid BY PROGRAM, IN A SANDBOX (cutbox-door.mjs). By AI agents, Wed Nov 11 2026. No macro, syntax, notation, axiom, sorry.
-/
import Derived.Test.YtmpfooekljbhhaaDoorRows
import GoSem.ClaimSeven
namespace Go.Proofs.YtmpfooekljbhhaaDoor
namespace Rows

/-- THE TIED CARD OF 'liverylaw11.XmssNodes'. -/
def xmssNodesCard : Claim7 := { stood := { row := xmssNodesRow, standIns := [], harness := (true, "20426d89e038f2697c7132effd71a1a2c8b1afb32b8c091dc9a35aa83bbc1426"), looks := false }, kinds := [], alts := [], laidByText := true, laidKinds := [.data, .data], laidTests := true, laidLooks := .later }
def XmssNodesCardSaid : Prop := Claim7.holds Tryd.pinned (.plain (OpenSpec.ofChange xmssNodesSpec)) xmssNodesCard

/-- THE TIED CARD OF 'liverylaw10.WotsSteps'. -/
def wotsStepsCard : Claim7 := { stood := { row := wotsStepsRow, standIns := [], harness := (true, "20426d89e038f2697c7132effd71a1a2c8b1afb32b8c091dc9a35aa83bbc1426"), looks := false }, kinds := [], alts := [], laidByText := true, laidKinds := [.data, .data], laidTests := true, laidLooks := .later }
def WotsStepsCardSaid : Prop := Claim7.holds Tryd.pinned (.plain (OpenSpec.ofChange wotsStepsSpec)) wotsStepsCard

/-- THE TIED CARD OF 'liverylaw10.WotsDigits'. -/
def wotsDigitsCard : Claim7 := { stood := { row := wotsDigitsRow, standIns := [], harness := (true, "20426d89e038f2697c7132effd71a1a2c8b1afb32b8c091dc9a35aa83bbc1426"), looks := false }, kinds := [], alts := [], laidByText := true, laidKinds := [.data, .data], laidTests := true, laidLooks := .later }
def WotsDigitsCardSaid : Prop := Claim7.holds Tryd.pinned (.plain (OpenSpec.ofChange wotsDigitsSpec)) wotsDigitsCard

/-- THE TIED CARD OF 'liverylaw10.WotsBelow'. -/
def wotsBelowCard : Claim7 := { stood := { row := wotsBelowRow, standIns := [], harness := (true, "20426d89e038f2697c7132effd71a1a2c8b1afb32b8c091dc9a35aa83bbc1426"), looks := false }, kinds := [], alts := [], laidByText := true, laidKinds := [.data, .data], laidTests := true, laidLooks := .later }
def WotsBelowCardSaid : Prop := Claim7.holds Tryd.pinned (.plain (OpenSpec.ofChange wotsBelowSpec)) wotsBelowCard

/-- THE TIED CARD OF 'liverylaw10.WotsKeyed'. -/
def wotsKeyedCard : Claim7 := { stood := { row := wotsKeyedRow, standIns := [], harness := (true, "20426d89e038f2697c7132effd71a1a2c8b1afb32b8c091dc9a35aa83bbc1426"), looks := false }, kinds := [], alts := [], laidByText := true, laidKinds := [.data, .data], laidTests := true, laidLooks := .later }
def WotsKeyedCardSaid : Prop := Claim7.holds Tryd.pinned (.plain (OpenSpec.ofChange wotsKeyedSpec)) wotsKeyedCard

/-- THE TIED CARD OF 'liverylaw10.WotsOn'. -/
def wotsOnCard : Claim7 := { stood := { row := wotsOnRow, standIns := [], harness := (true, "20426d89e038f2697c7132effd71a1a2c8b1afb32b8c091dc9a35aa83bbc1426"), looks := false }, kinds := [], alts := [], laidByText := true, laidKinds := [.data, .data], laidTests := true, laidLooks := .later }
def WotsOnCardSaid : Prop := Claim7.holds Tryd.pinned (.plain (OpenSpec.ofChange wotsOnSpec)) wotsOnCard

/-- THE TIED CARD OF 'liverylaw11.XmssLtrees'. -/
def xmssLtreesCard : Claim7 := { stood := { row := xmssLtreesRow, standIns := [], harness := (true, "20426d89e038f2697c7132effd71a1a2c8b1afb32b8c091dc9a35aa83bbc1426"), looks := false }, kinds := [], alts := [], laidByText := true, laidKinds := [.data, .data], laidTests := true, laidLooks := .later }
def XmssLtreesCardSaid : Prop := Claim7.holds Tryd.pinned (.plain (OpenSpec.ofChange xmssLtreesSpec)) xmssLtreesCard

/-- THE TIED CARD OF 'liverylaw10.WotsCounts'. -/
def wotsCountsCard : Claim7 := { stood := { row := wotsCountsRow, standIns := [], harness := (true, "20426d89e038f2697c7132effd71a1a2c8b1afb32b8c091dc9a35aa83bbc1426"), looks := false }, kinds := [], alts := [], laidByText := true, laidKinds := [.data, .data], laidTests := true, laidLooks := .later }
def WotsCountsCardSaid : Prop := Claim7.holds Tryd.pinned (.plain (OpenSpec.ofChange wotsCountsSpec)) wotsCountsCard

/-- THE TIED CARD OF 'liverylaw10.WotsPublic'. -/
def wotsPublicCard : Claim7 := { stood := { row := wotsPublicRow, standIns := [], harness := (true, "20426d89e038f2697c7132effd71a1a2c8b1afb32b8c091dc9a35aa83bbc1426"), looks := false }, kinds := [], alts := [], laidByText := true, laidKinds := [.data, .data], laidTests := true, laidLooks := .later }
def WotsPublicCardSaid : Prop := Claim7.holds Tryd.pinned (.plain (OpenSpec.ofChange wotsPublicSpec)) wotsPublicCard

/-- THE TIED CARD OF 'liverylaw10.WotsSigns'. -/
def wotsSignsCard : Claim7 := { stood := { row := wotsSignsRow, standIns := [], harness := (true, "20426d89e038f2697c7132effd71a1a2c8b1afb32b8c091dc9a35aa83bbc1426"), looks := false }, kinds := [], alts := [], laidByText := true, laidKinds := [.data, .data], laidTests := true, laidLooks := .later }
def WotsSignsCardSaid : Prop := Claim7.holds Tryd.pinned (.plain (OpenSpec.ofChange wotsSignsSpec)) wotsSignsCard

/-- THE TIED CARD OF 'liverylaw10.WotsVerifies'. -/
def wotsVerifiesCard : Claim7 := { stood := { row := wotsVerifiesRow, standIns := [], harness := (true, "20426d89e038f2697c7132effd71a1a2c8b1afb32b8c091dc9a35aa83bbc1426"), looks := false }, kinds := [], alts := [], laidByText := true, laidKinds := [.data, .data], laidTests := true, laidLooks := .later }
def WotsVerifiesCardSaid : Prop := Claim7.holds Tryd.pinned (.plain (OpenSpec.ofChange wotsVerifiesSpec)) wotsVerifiesCard

/-- THE TIED CARD OF 'liverylaw11.XmssNone'. -/
def xmssNoneCard : Claim7 := { stood := { row := xmssNoneRow, standIns := [], harness := (true, "20426d89e038f2697c7132effd71a1a2c8b1afb32b8c091dc9a35aa83bbc1426"), looks := false }, kinds := [], alts := [], laidByText := true, laidKinds := [.data, .data], laidTests := true, laidLooks := .later }
def XmssNoneCardSaid : Prop := Claim7.holds Tryd.pinned (.plain (OpenSpec.ofChange xmssNoneSpec)) xmssNoneCard

/-- THE SECOND FORM's CARD OF 'liverylaw11.XmssNodes'. -/
def xmssNodesUptoCard : Claim7 := { stood := { row := xmssNodesUptoRow, standIns := [], harness := (true, "20426d89e038f2697c7132effd71a1a2c8b1afb32b8c091dc9a35aa83bbc1426"), looks := false }, kinds := [], alts := [], laidByText := true, laidKinds := [.data, .data], laidTests := true, laidLooks := .later }
def XmssNodesUptoCardSaid : Prop := Claim7.holds Tryd.pinned (.plain (OpenSpec.upto xmssNodesSpec)) xmssNodesUptoCard

/-- THE SECOND FORM's CARD OF 'liverylaw10.WotsSteps'. -/
def wotsStepsUptoCard : Claim7 := { stood := { row := wotsStepsUptoRow, standIns := [], harness := (true, "20426d89e038f2697c7132effd71a1a2c8b1afb32b8c091dc9a35aa83bbc1426"), looks := false }, kinds := [], alts := [], laidByText := true, laidKinds := [.data, .data], laidTests := true, laidLooks := .later }
def WotsStepsUptoCardSaid : Prop := Claim7.holds Tryd.pinned (.plain (OpenSpec.upto wotsStepsSpec)) wotsStepsUptoCard

/-- THE SECOND FORM's CARD OF 'liverylaw10.WotsDigits'. -/
def wotsDigitsUptoCard : Claim7 := { stood := { row := wotsDigitsUptoRow, standIns := [], harness := (true, "20426d89e038f2697c7132effd71a1a2c8b1afb32b8c091dc9a35aa83bbc1426"), looks := false }, kinds := [], alts := [], laidByText := true, laidKinds := [.data, .data], laidTests := true, laidLooks := .later }
def WotsDigitsUptoCardSaid : Prop := Claim7.holds Tryd.pinned (.plain (OpenSpec.upto wotsDigitsSpec)) wotsDigitsUptoCard

/-- THE SECOND FORM's CARD OF 'liverylaw10.WotsBelow'. -/
def wotsBelowUptoCard : Claim7 := { stood := { row := wotsBelowUptoRow, standIns := [], harness := (true, "20426d89e038f2697c7132effd71a1a2c8b1afb32b8c091dc9a35aa83bbc1426"), looks := false }, kinds := [], alts := [], laidByText := true, laidKinds := [.data, .data], laidTests := true, laidLooks := .later }
def WotsBelowUptoCardSaid : Prop := Claim7.holds Tryd.pinned (.plain (OpenSpec.upto wotsBelowSpec)) wotsBelowUptoCard

/-- THE SECOND FORM's CARD OF 'liverylaw10.WotsKeyed'. -/
def wotsKeyedUptoCard : Claim7 := { stood := { row := wotsKeyedUptoRow, standIns := [], harness := (true, "20426d89e038f2697c7132effd71a1a2c8b1afb32b8c091dc9a35aa83bbc1426"), looks := false }, kinds := [], alts := [], laidByText := true, laidKinds := [.data, .data], laidTests := true, laidLooks := .later }
def WotsKeyedUptoCardSaid : Prop := Claim7.holds Tryd.pinned (.plain (OpenSpec.upto wotsKeyedSpec)) wotsKeyedUptoCard

/-- THE SECOND FORM's CARD OF 'liverylaw10.WotsOn'. -/
def wotsOnUptoCard : Claim7 := { stood := { row := wotsOnUptoRow, standIns := [], harness := (true, "20426d89e038f2697c7132effd71a1a2c8b1afb32b8c091dc9a35aa83bbc1426"), looks := false }, kinds := [], alts := [], laidByText := true, laidKinds := [.data, .data], laidTests := true, laidLooks := .later }
def WotsOnUptoCardSaid : Prop := Claim7.holds Tryd.pinned (.plain (OpenSpec.upto wotsOnSpec)) wotsOnUptoCard

/-- THE SECOND FORM's CARD OF 'liverylaw11.XmssLtrees'. -/
def xmssLtreesUptoCard : Claim7 := { stood := { row := xmssLtreesUptoRow, standIns := [], harness := (true, "20426d89e038f2697c7132effd71a1a2c8b1afb32b8c091dc9a35aa83bbc1426"), looks := false }, kinds := [], alts := [], laidByText := true, laidKinds := [.data, .data], laidTests := true, laidLooks := .later }
def XmssLtreesUptoCardSaid : Prop := Claim7.holds Tryd.pinned (.plain (OpenSpec.upto xmssLtreesSpec)) xmssLtreesUptoCard

/-- THE SECOND FORM's CARD OF 'liverylaw10.WotsCounts'. -/
def wotsCountsUptoCard : Claim7 := { stood := { row := wotsCountsUptoRow, standIns := [], harness := (true, "20426d89e038f2697c7132effd71a1a2c8b1afb32b8c091dc9a35aa83bbc1426"), looks := false }, kinds := [], alts := [], laidByText := true, laidKinds := [.data, .data], laidTests := true, laidLooks := .later }
def WotsCountsUptoCardSaid : Prop := Claim7.holds Tryd.pinned (.plain (OpenSpec.upto wotsCountsSpec)) wotsCountsUptoCard

/-- THE SECOND FORM's CARD OF 'liverylaw10.WotsPublic'. -/
def wotsPublicUptoCard : Claim7 := { stood := { row := wotsPublicUptoRow, standIns := [], harness := (true, "20426d89e038f2697c7132effd71a1a2c8b1afb32b8c091dc9a35aa83bbc1426"), looks := false }, kinds := [], alts := [], laidByText := true, laidKinds := [.data, .data], laidTests := true, laidLooks := .later }
def WotsPublicUptoCardSaid : Prop := Claim7.holds Tryd.pinned (.plain (OpenSpec.upto wotsPublicSpec)) wotsPublicUptoCard

/-- THE SECOND FORM's CARD OF 'liverylaw10.WotsSigns'. -/
def wotsSignsUptoCard : Claim7 := { stood := { row := wotsSignsUptoRow, standIns := [], harness := (true, "20426d89e038f2697c7132effd71a1a2c8b1afb32b8c091dc9a35aa83bbc1426"), looks := false }, kinds := [], alts := [], laidByText := true, laidKinds := [.data, .data], laidTests := true, laidLooks := .later }
def WotsSignsUptoCardSaid : Prop := Claim7.holds Tryd.pinned (.plain (OpenSpec.upto wotsSignsSpec)) wotsSignsUptoCard

/-- THE SECOND FORM's CARD OF 'liverylaw10.WotsVerifies'. -/
def wotsVerifiesUptoCard : Claim7 := { stood := { row := wotsVerifiesUptoRow, standIns := [], harness := (true, "20426d89e038f2697c7132effd71a1a2c8b1afb32b8c091dc9a35aa83bbc1426"), looks := false }, kinds := [], alts := [], laidByText := true, laidKinds := [.data, .data], laidTests := true, laidLooks := .later }
def WotsVerifiesUptoCardSaid : Prop := Claim7.holds Tryd.pinned (.plain (OpenSpec.upto wotsVerifiesSpec)) wotsVerifiesUptoCard

/-- THE SECOND FORM's CARD OF 'liverylaw11.XmssNone'. -/
def xmssNoneUptoCard : Claim7 := { stood := { row := xmssNoneUptoRow, standIns := [], harness := (true, "20426d89e038f2697c7132effd71a1a2c8b1afb32b8c091dc9a35aa83bbc1426"), looks := false }, kinds := [], alts := [], laidByText := true, laidKinds := [.data, .data], laidTests := true, laidLooks := .later }
def XmssNoneUptoCardSaid : Prop := Claim7.holds Tryd.pinned (.plain (OpenSpec.upto xmssNoneSpec)) xmssNoneUptoCard
end Rows
end Go.Proofs.YtmpfooekljbhhaaDoor
