/-
  DERIVED. GIVEN WITH THE SEED: THE CARDS: each row of YtkpeoplkldpmlaaDoorRows.lean that lists a variable, with what it lists TIED to the program's text (the seventh form; the later family's looks); each row that meets fmt, with fmt's text TOLD by the authors' own Lean function (tested against real Go, not proved from fmt's source: count such statements apart). THE CARD IS WHAT COUNTS. Prove the row's statement (the work); the ties are given (YtkpeoplkldpmlaaDoorTie.lean); close each card by the builder's one call (the guide's Derived/Test/ToyasCard.lean, 'card_holds'). Laid BY PROGRAM, IN A SANDBOX (cutbox-door.mjs). By AI agents, Wed Nov 11 2026. No macro, syntax, notation, axiom, sorry.
-/
import Derived.Test.YtkpeoplkldpmlaaDoorRows
import GoSem.ClaimSeven
namespace Go.Proofs.YtkpeoplkldpmlaaDoor
namespace Rows

/-- THE TIED CARD OF 'liverylaw07.LmotsHashes'. -/
def lmotsHashesCard : Claim7 := { stood := { row := lmotsHashesRow, standIns := [], harness := (true, "530b832309f3b2e7f5e250f4f225ada94d81113330c8d916f60228bf50ddf04d"), looks := false }, kinds := [], alts := [], laidByText := true, laidKinds := [.data, .data], laidTests := true, laidLooks := .later }
def LmotsHashesCardSaid : Prop := Claim7.holds Tryd.pinned (.plain (OpenSpec.ofChange lmotsHashesSpec)) lmotsHashesCard

/-- THE TIED CARD OF 'liverylaw07.LmotsChains'. -/
def lmotsChainsCard : Claim7 := { stood := { row := lmotsChainsRow, standIns := [], harness := (true, "530b832309f3b2e7f5e250f4f225ada94d81113330c8d916f60228bf50ddf04d"), looks := false }, kinds := [], alts := [], laidByText := true, laidKinds := [.data, .data], laidTests := true, laidLooks := .later }
def LmotsChainsCardSaid : Prop := Claim7.holds Tryd.pinned (.plain (OpenSpec.ofChange lmotsChainsSpec)) lmotsChainsCard

/-- THE TIED CARD OF 'liverylaw07.LmotsSteps'. -/
def lmotsStepsCard : Claim7 := { stood := { row := lmotsStepsRow, standIns := [], harness := (true, "530b832309f3b2e7f5e250f4f225ada94d81113330c8d916f60228bf50ddf04d"), looks := false }, kinds := [], alts := [], laidByText := true, laidKinds := [.data, .data], laidTests := true, laidLooks := .later }
def LmotsStepsCardSaid : Prop := Claim7.holds Tryd.pinned (.plain (OpenSpec.ofChange lmotsStepsSpec)) lmotsStepsCard

/-- THE TIED CARD OF 'liverylaw07.LmotsSecrets'. -/
def lmotsSecretsCard : Claim7 := { stood := { row := lmotsSecretsRow, standIns := [], harness := (true, "530b832309f3b2e7f5e250f4f225ada94d81113330c8d916f60228bf50ddf04d"), looks := false }, kinds := [], alts := [], laidByText := true, laidKinds := [.data, .data], laidTests := true, laidLooks := .later }
def LmotsSecretsCardSaid : Prop := Claim7.holds Tryd.pinned (.plain (OpenSpec.ofChange lmotsSecretsSpec)) lmotsSecretsCard

/-- THE TIED CARD OF 'liverylaw07.LmotsPublics'. -/
def lmotsPublicsCard : Claim7 := { stood := { row := lmotsPublicsRow, standIns := [], harness := (true, "530b832309f3b2e7f5e250f4f225ada94d81113330c8d916f60228bf50ddf04d"), looks := false }, kinds := [], alts := [], laidByText := true, laidKinds := [.data, .data], laidTests := true, laidLooks := .later }
def LmotsPublicsCardSaid : Prop := Claim7.holds Tryd.pinned (.plain (OpenSpec.ofChange lmotsPublicsSpec)) lmotsPublicsCard

/-- THE TIED CARD OF 'liverylaw07.LmotsSigns'. -/
def lmotsSignsCard : Claim7 := { stood := { row := lmotsSignsRow, standIns := [], harness := (true, "530b832309f3b2e7f5e250f4f225ada94d81113330c8d916f60228bf50ddf04d"), looks := false }, kinds := [], alts := [], laidByText := true, laidKinds := [.data, .data], laidTests := true, laidLooks := .later }
def LmotsSignsCardSaid : Prop := Claim7.holds Tryd.pinned (.plain (OpenSpec.ofChange lmotsSignsSpec)) lmotsSignsCard

/-- THE TIED CARD OF 'liverylaw11.XmssNodes'. -/
def xmssNodesCard : Claim7 := { stood := { row := xmssNodesRow, standIns := [], harness := (true, "530b832309f3b2e7f5e250f4f225ada94d81113330c8d916f60228bf50ddf04d"), looks := false }, kinds := [], alts := [], laidByText := true, laidKinds := [.data, .data], laidTests := true, laidLooks := .later }
def XmssNodesCardSaid : Prop := Claim7.holds Tryd.pinned (.plain (OpenSpec.ofChange xmssNodesSpec)) xmssNodesCard

/-- THE TIED CARD OF 'liverylaw10.WotsSteps'. -/
def wotsStepsCard : Claim7 := { stood := { row := wotsStepsRow, standIns := [], harness := (true, "530b832309f3b2e7f5e250f4f225ada94d81113330c8d916f60228bf50ddf04d"), looks := false }, kinds := [], alts := [], laidByText := true, laidKinds := [.data, .data], laidTests := true, laidLooks := .later }
def WotsStepsCardSaid : Prop := Claim7.holds Tryd.pinned (.plain (OpenSpec.ofChange wotsStepsSpec)) wotsStepsCard

/-- THE TIED CARD OF 'liverylaw07.LmotsCandidates'. -/
def lmotsCandidatesCard : Claim7 := { stood := { row := lmotsCandidatesRow, standIns := [], harness := (true, "530b832309f3b2e7f5e250f4f225ada94d81113330c8d916f60228bf50ddf04d"), looks := false }, kinds := [], alts := [], laidByText := true, laidKinds := [.data, .data], laidTests := true, laidLooks := .later }
def LmotsCandidatesCardSaid : Prop := Claim7.holds Tryd.pinned (.plain (OpenSpec.ofChange lmotsCandidatesSpec)) lmotsCandidatesCard

/-- THE TIED CARD OF 'liverylaw10.WotsDigits'. -/
def wotsDigitsCard : Claim7 := { stood := { row := wotsDigitsRow, standIns := [], harness := (true, "530b832309f3b2e7f5e250f4f225ada94d81113330c8d916f60228bf50ddf04d"), looks := false }, kinds := [], alts := [], laidByText := true, laidKinds := [.data, .data], laidTests := true, laidLooks := .later }
def WotsDigitsCardSaid : Prop := Claim7.holds Tryd.pinned (.plain (OpenSpec.ofChange wotsDigitsSpec)) wotsDigitsCard

/-- THE TIED CARD OF 'liverylaw10.WotsBelow'. -/
def wotsBelowCard : Claim7 := { stood := { row := wotsBelowRow, standIns := [], harness := (true, "530b832309f3b2e7f5e250f4f225ada94d81113330c8d916f60228bf50ddf04d"), looks := false }, kinds := [], alts := [], laidByText := true, laidKinds := [.data, .data], laidTests := true, laidLooks := .later }
def WotsBelowCardSaid : Prop := Claim7.holds Tryd.pinned (.plain (OpenSpec.ofChange wotsBelowSpec)) wotsBelowCard

/-- THE TIED CARD OF 'liverylaw10.WotsKeyed'. -/
def wotsKeyedCard : Claim7 := { stood := { row := wotsKeyedRow, standIns := [], harness := (true, "530b832309f3b2e7f5e250f4f225ada94d81113330c8d916f60228bf50ddf04d"), looks := false }, kinds := [], alts := [], laidByText := true, laidKinds := [.data, .data], laidTests := true, laidLooks := .later }
def WotsKeyedCardSaid : Prop := Claim7.holds Tryd.pinned (.plain (OpenSpec.ofChange wotsKeyedSpec)) wotsKeyedCard

/-- THE TIED CARD OF 'liverylaw09.HssSplits'. -/
def hssSplitsCard : Claim7 := { stood := { row := hssSplitsRow, standIns := [], harness := (true, "530b832309f3b2e7f5e250f4f225ada94d81113330c8d916f60228bf50ddf04d"), looks := false }, kinds := [], alts := [], laidByText := true, laidKinds := [.data, .data], laidTests := true, laidLooks := .later }
def HssSplitsCardSaid : Prop := Claim7.holds Tryd.pinned (.plain (OpenSpec.ofChange hssSplitsSpec)) hssSplitsCard

/-- THE TIED CARD OF 'liverylaw10.WotsOn'. -/
def wotsOnCard : Claim7 := { stood := { row := wotsOnRow, standIns := [], harness := (true, "530b832309f3b2e7f5e250f4f225ada94d81113330c8d916f60228bf50ddf04d"), looks := false }, kinds := [], alts := [], laidByText := true, laidKinds := [.data, .data], laidTests := true, laidLooks := .later }
def WotsOnCardSaid : Prop := Claim7.holds Tryd.pinned (.plain (OpenSpec.ofChange wotsOnSpec)) wotsOnCard

/-- THE TIED CARD OF 'liverylaw11.XmssLtrees'. -/
def xmssLtreesCard : Claim7 := { stood := { row := xmssLtreesRow, standIns := [], harness := (true, "530b832309f3b2e7f5e250f4f225ada94d81113330c8d916f60228bf50ddf04d"), looks := false }, kinds := [], alts := [], laidByText := true, laidKinds := [.data, .data], laidTests := true, laidLooks := .later }
def XmssLtreesCardSaid : Prop := Claim7.holds Tryd.pinned (.plain (OpenSpec.ofChange xmssLtreesSpec)) xmssLtreesCard

/-- THE TIED CARD OF 'liverylaw10.WotsCounts'. -/
def wotsCountsCard : Claim7 := { stood := { row := wotsCountsRow, standIns := [], harness := (true, "530b832309f3b2e7f5e250f4f225ada94d81113330c8d916f60228bf50ddf04d"), looks := false }, kinds := [], alts := [], laidByText := true, laidKinds := [.data, .data], laidTests := true, laidLooks := .later }
def WotsCountsCardSaid : Prop := Claim7.holds Tryd.pinned (.plain (OpenSpec.ofChange wotsCountsSpec)) wotsCountsCard

/-- THE TIED CARD OF 'liverylaw10.WotsPublic'. -/
def wotsPublicCard : Claim7 := { stood := { row := wotsPublicRow, standIns := [], harness := (true, "530b832309f3b2e7f5e250f4f225ada94d81113330c8d916f60228bf50ddf04d"), looks := false }, kinds := [], alts := [], laidByText := true, laidKinds := [.data, .data], laidTests := true, laidLooks := .later }
def WotsPublicCardSaid : Prop := Claim7.holds Tryd.pinned (.plain (OpenSpec.ofChange wotsPublicSpec)) wotsPublicCard

/-- THE TIED CARD OF 'liverylaw10.WotsSigns'. -/
def wotsSignsCard : Claim7 := { stood := { row := wotsSignsRow, standIns := [], harness := (true, "530b832309f3b2e7f5e250f4f225ada94d81113330c8d916f60228bf50ddf04d"), looks := false }, kinds := [], alts := [], laidByText := true, laidKinds := [.data, .data], laidTests := true, laidLooks := .later }
def WotsSignsCardSaid : Prop := Claim7.holds Tryd.pinned (.plain (OpenSpec.ofChange wotsSignsSpec)) wotsSignsCard

/-- THE TIED CARD OF 'liverylaw07.LmotsOwn'. -/
def lmotsOwnCard : Claim7 := { stood := { row := lmotsOwnRow, standIns := [], harness := (true, "530b832309f3b2e7f5e250f4f225ada94d81113330c8d916f60228bf50ddf04d"), looks := false }, kinds := [], alts := [], laidByText := true, laidKinds := [.data, .data], laidTests := true, laidLooks := .later }
def LmotsOwnCardSaid : Prop := Claim7.holds Tryd.pinned (.plain (OpenSpec.ofChange lmotsOwnSpec)) lmotsOwnCard

/-- THE TIED CARD OF 'liverylaw10.WotsVerifies'. -/
def wotsVerifiesCard : Claim7 := { stood := { row := wotsVerifiesRow, standIns := [], harness := (true, "530b832309f3b2e7f5e250f4f225ada94d81113330c8d916f60228bf50ddf04d"), looks := false }, kinds := [], alts := [], laidByText := true, laidKinds := [.data, .data], laidTests := true, laidLooks := .later }
def WotsVerifiesCardSaid : Prop := Claim7.holds Tryd.pinned (.plain (OpenSpec.ofChange wotsVerifiesSpec)) wotsVerifiesCard

/-- THE TIED CARD OF 'liverylaw11.XmssNone'. -/
def xmssNoneCard : Claim7 := { stood := { row := xmssNoneRow, standIns := [], harness := (true, "530b832309f3b2e7f5e250f4f225ada94d81113330c8d916f60228bf50ddf04d"), looks := false }, kinds := [], alts := [], laidByText := true, laidKinds := [.data, .data], laidTests := true, laidLooks := .later }
def XmssNoneCardSaid : Prop := Claim7.holds Tryd.pinned (.plain (OpenSpec.ofChange xmssNoneSpec)) xmssNoneCard

/-- THE TIED CARD OF 'liverylaw08.LmsRight'. -/
def lmsRightCard : Claim7 := { stood := { row := lmsRightRow, standIns := [], harness := (true, "530b832309f3b2e7f5e250f4f225ada94d81113330c8d916f60228bf50ddf04d"), looks := false }, kinds := [], alts := [], laidByText := true, laidKinds := [.data, .data], laidTests := true, laidLooks := .later }
def LmsRightCardSaid : Prop := Claim7.holds Tryd.pinned (.plain (OpenSpec.ofChange lmsRightSpec)) lmsRightCard

/-- THE TIED CARD OF 'liverylaw08.LmsNone'. -/
def lmsNoneCard : Claim7 := { stood := { row := lmsNoneRow, standIns := [], harness := (true, "530b832309f3b2e7f5e250f4f225ada94d81113330c8d916f60228bf50ddf04d"), looks := false }, kinds := [], alts := [], laidByText := true, laidKinds := [.data, .data], laidTests := true, laidLooks := .later }
def LmsNoneCardSaid : Prop := Claim7.holds Tryd.pinned (.plain (OpenSpec.ofChange lmsNoneSpec)) lmsNoneCard

/-- THE SECOND FORM's CARD OF 'liverylaw07.LmotsHashes'. -/
def lmotsHashesUptoCard : Claim7 := { stood := { row := lmotsHashesUptoRow, standIns := [], harness := (true, "530b832309f3b2e7f5e250f4f225ada94d81113330c8d916f60228bf50ddf04d"), looks := false }, kinds := [], alts := [], laidByText := true, laidKinds := [.data, .data], laidTests := true, laidLooks := .later }
def LmotsHashesUptoCardSaid : Prop := Claim7.holds Tryd.pinned (.plain (OpenSpec.upto lmotsHashesSpec)) lmotsHashesUptoCard

/-- THE SECOND FORM's CARD OF 'liverylaw07.LmotsChains'. -/
def lmotsChainsUptoCard : Claim7 := { stood := { row := lmotsChainsUptoRow, standIns := [], harness := (true, "530b832309f3b2e7f5e250f4f225ada94d81113330c8d916f60228bf50ddf04d"), looks := false }, kinds := [], alts := [], laidByText := true, laidKinds := [.data, .data], laidTests := true, laidLooks := .later }
def LmotsChainsUptoCardSaid : Prop := Claim7.holds Tryd.pinned (.plain (OpenSpec.upto lmotsChainsSpec)) lmotsChainsUptoCard

/-- THE SECOND FORM's CARD OF 'liverylaw07.LmotsSteps'. -/
def lmotsStepsUptoCard : Claim7 := { stood := { row := lmotsStepsUptoRow, standIns := [], harness := (true, "530b832309f3b2e7f5e250f4f225ada94d81113330c8d916f60228bf50ddf04d"), looks := false }, kinds := [], alts := [], laidByText := true, laidKinds := [.data, .data], laidTests := true, laidLooks := .later }
def LmotsStepsUptoCardSaid : Prop := Claim7.holds Tryd.pinned (.plain (OpenSpec.upto lmotsStepsSpec)) lmotsStepsUptoCard

/-- THE SECOND FORM's CARD OF 'liverylaw07.LmotsSecrets'. -/
def lmotsSecretsUptoCard : Claim7 := { stood := { row := lmotsSecretsUptoRow, standIns := [], harness := (true, "530b832309f3b2e7f5e250f4f225ada94d81113330c8d916f60228bf50ddf04d"), looks := false }, kinds := [], alts := [], laidByText := true, laidKinds := [.data, .data], laidTests := true, laidLooks := .later }
def LmotsSecretsUptoCardSaid : Prop := Claim7.holds Tryd.pinned (.plain (OpenSpec.upto lmotsSecretsSpec)) lmotsSecretsUptoCard

/-- THE SECOND FORM's CARD OF 'liverylaw07.LmotsPublics'. -/
def lmotsPublicsUptoCard : Claim7 := { stood := { row := lmotsPublicsUptoRow, standIns := [], harness := (true, "530b832309f3b2e7f5e250f4f225ada94d81113330c8d916f60228bf50ddf04d"), looks := false }, kinds := [], alts := [], laidByText := true, laidKinds := [.data, .data], laidTests := true, laidLooks := .later }
def LmotsPublicsUptoCardSaid : Prop := Claim7.holds Tryd.pinned (.plain (OpenSpec.upto lmotsPublicsSpec)) lmotsPublicsUptoCard

/-- THE SECOND FORM's CARD OF 'liverylaw07.LmotsSigns'. -/
def lmotsSignsUptoCard : Claim7 := { stood := { row := lmotsSignsUptoRow, standIns := [], harness := (true, "530b832309f3b2e7f5e250f4f225ada94d81113330c8d916f60228bf50ddf04d"), looks := false }, kinds := [], alts := [], laidByText := true, laidKinds := [.data, .data], laidTests := true, laidLooks := .later }
def LmotsSignsUptoCardSaid : Prop := Claim7.holds Tryd.pinned (.plain (OpenSpec.upto lmotsSignsSpec)) lmotsSignsUptoCard

/-- THE SECOND FORM's CARD OF 'liverylaw11.XmssNodes'. -/
def xmssNodesUptoCard : Claim7 := { stood := { row := xmssNodesUptoRow, standIns := [], harness := (true, "530b832309f3b2e7f5e250f4f225ada94d81113330c8d916f60228bf50ddf04d"), looks := false }, kinds := [], alts := [], laidByText := true, laidKinds := [.data, .data], laidTests := true, laidLooks := .later }
def XmssNodesUptoCardSaid : Prop := Claim7.holds Tryd.pinned (.plain (OpenSpec.upto xmssNodesSpec)) xmssNodesUptoCard

/-- THE SECOND FORM's CARD OF 'liverylaw10.WotsSteps'. -/
def wotsStepsUptoCard : Claim7 := { stood := { row := wotsStepsUptoRow, standIns := [], harness := (true, "530b832309f3b2e7f5e250f4f225ada94d81113330c8d916f60228bf50ddf04d"), looks := false }, kinds := [], alts := [], laidByText := true, laidKinds := [.data, .data], laidTests := true, laidLooks := .later }
def WotsStepsUptoCardSaid : Prop := Claim7.holds Tryd.pinned (.plain (OpenSpec.upto wotsStepsSpec)) wotsStepsUptoCard

/-- THE SECOND FORM's CARD OF 'liverylaw07.LmotsCandidates'. -/
def lmotsCandidatesUptoCard : Claim7 := { stood := { row := lmotsCandidatesUptoRow, standIns := [], harness := (true, "530b832309f3b2e7f5e250f4f225ada94d81113330c8d916f60228bf50ddf04d"), looks := false }, kinds := [], alts := [], laidByText := true, laidKinds := [.data, .data], laidTests := true, laidLooks := .later }
def LmotsCandidatesUptoCardSaid : Prop := Claim7.holds Tryd.pinned (.plain (OpenSpec.upto lmotsCandidatesSpec)) lmotsCandidatesUptoCard

/-- THE SECOND FORM's CARD OF 'liverylaw10.WotsDigits'. -/
def wotsDigitsUptoCard : Claim7 := { stood := { row := wotsDigitsUptoRow, standIns := [], harness := (true, "530b832309f3b2e7f5e250f4f225ada94d81113330c8d916f60228bf50ddf04d"), looks := false }, kinds := [], alts := [], laidByText := true, laidKinds := [.data, .data], laidTests := true, laidLooks := .later }
def WotsDigitsUptoCardSaid : Prop := Claim7.holds Tryd.pinned (.plain (OpenSpec.upto wotsDigitsSpec)) wotsDigitsUptoCard

/-- THE SECOND FORM's CARD OF 'liverylaw10.WotsBelow'. -/
def wotsBelowUptoCard : Claim7 := { stood := { row := wotsBelowUptoRow, standIns := [], harness := (true, "530b832309f3b2e7f5e250f4f225ada94d81113330c8d916f60228bf50ddf04d"), looks := false }, kinds := [], alts := [], laidByText := true, laidKinds := [.data, .data], laidTests := true, laidLooks := .later }
def WotsBelowUptoCardSaid : Prop := Claim7.holds Tryd.pinned (.plain (OpenSpec.upto wotsBelowSpec)) wotsBelowUptoCard

/-- THE SECOND FORM's CARD OF 'liverylaw10.WotsKeyed'. -/
def wotsKeyedUptoCard : Claim7 := { stood := { row := wotsKeyedUptoRow, standIns := [], harness := (true, "530b832309f3b2e7f5e250f4f225ada94d81113330c8d916f60228bf50ddf04d"), looks := false }, kinds := [], alts := [], laidByText := true, laidKinds := [.data, .data], laidTests := true, laidLooks := .later }
def WotsKeyedUptoCardSaid : Prop := Claim7.holds Tryd.pinned (.plain (OpenSpec.upto wotsKeyedSpec)) wotsKeyedUptoCard

/-- THE SECOND FORM's CARD OF 'liverylaw09.HssSplits'. -/
def hssSplitsUptoCard : Claim7 := { stood := { row := hssSplitsUptoRow, standIns := [], harness := (true, "530b832309f3b2e7f5e250f4f225ada94d81113330c8d916f60228bf50ddf04d"), looks := false }, kinds := [], alts := [], laidByText := true, laidKinds := [.data, .data], laidTests := true, laidLooks := .later }
def HssSplitsUptoCardSaid : Prop := Claim7.holds Tryd.pinned (.plain (OpenSpec.upto hssSplitsSpec)) hssSplitsUptoCard

/-- THE SECOND FORM's CARD OF 'liverylaw10.WotsOn'. -/
def wotsOnUptoCard : Claim7 := { stood := { row := wotsOnUptoRow, standIns := [], harness := (true, "530b832309f3b2e7f5e250f4f225ada94d81113330c8d916f60228bf50ddf04d"), looks := false }, kinds := [], alts := [], laidByText := true, laidKinds := [.data, .data], laidTests := true, laidLooks := .later }
def WotsOnUptoCardSaid : Prop := Claim7.holds Tryd.pinned (.plain (OpenSpec.upto wotsOnSpec)) wotsOnUptoCard

/-- THE SECOND FORM's CARD OF 'liverylaw11.XmssLtrees'. -/
def xmssLtreesUptoCard : Claim7 := { stood := { row := xmssLtreesUptoRow, standIns := [], harness := (true, "530b832309f3b2e7f5e250f4f225ada94d81113330c8d916f60228bf50ddf04d"), looks := false }, kinds := [], alts := [], laidByText := true, laidKinds := [.data, .data], laidTests := true, laidLooks := .later }
def XmssLtreesUptoCardSaid : Prop := Claim7.holds Tryd.pinned (.plain (OpenSpec.upto xmssLtreesSpec)) xmssLtreesUptoCard

/-- THE SECOND FORM's CARD OF 'liverylaw10.WotsCounts'. -/
def wotsCountsUptoCard : Claim7 := { stood := { row := wotsCountsUptoRow, standIns := [], harness := (true, "530b832309f3b2e7f5e250f4f225ada94d81113330c8d916f60228bf50ddf04d"), looks := false }, kinds := [], alts := [], laidByText := true, laidKinds := [.data, .data], laidTests := true, laidLooks := .later }
def WotsCountsUptoCardSaid : Prop := Claim7.holds Tryd.pinned (.plain (OpenSpec.upto wotsCountsSpec)) wotsCountsUptoCard

/-- THE SECOND FORM's CARD OF 'liverylaw10.WotsPublic'. -/
def wotsPublicUptoCard : Claim7 := { stood := { row := wotsPublicUptoRow, standIns := [], harness := (true, "530b832309f3b2e7f5e250f4f225ada94d81113330c8d916f60228bf50ddf04d"), looks := false }, kinds := [], alts := [], laidByText := true, laidKinds := [.data, .data], laidTests := true, laidLooks := .later }
def WotsPublicUptoCardSaid : Prop := Claim7.holds Tryd.pinned (.plain (OpenSpec.upto wotsPublicSpec)) wotsPublicUptoCard

/-- THE SECOND FORM's CARD OF 'liverylaw10.WotsSigns'. -/
def wotsSignsUptoCard : Claim7 := { stood := { row := wotsSignsUptoRow, standIns := [], harness := (true, "530b832309f3b2e7f5e250f4f225ada94d81113330c8d916f60228bf50ddf04d"), looks := false }, kinds := [], alts := [], laidByText := true, laidKinds := [.data, .data], laidTests := true, laidLooks := .later }
def WotsSignsUptoCardSaid : Prop := Claim7.holds Tryd.pinned (.plain (OpenSpec.upto wotsSignsSpec)) wotsSignsUptoCard

/-- THE SECOND FORM's CARD OF 'liverylaw07.LmotsOwn'. -/
def lmotsOwnUptoCard : Claim7 := { stood := { row := lmotsOwnUptoRow, standIns := [], harness := (true, "530b832309f3b2e7f5e250f4f225ada94d81113330c8d916f60228bf50ddf04d"), looks := false }, kinds := [], alts := [], laidByText := true, laidKinds := [.data, .data], laidTests := true, laidLooks := .later }
def LmotsOwnUptoCardSaid : Prop := Claim7.holds Tryd.pinned (.plain (OpenSpec.upto lmotsOwnSpec)) lmotsOwnUptoCard

/-- THE SECOND FORM's CARD OF 'liverylaw10.WotsVerifies'. -/
def wotsVerifiesUptoCard : Claim7 := { stood := { row := wotsVerifiesUptoRow, standIns := [], harness := (true, "530b832309f3b2e7f5e250f4f225ada94d81113330c8d916f60228bf50ddf04d"), looks := false }, kinds := [], alts := [], laidByText := true, laidKinds := [.data, .data], laidTests := true, laidLooks := .later }
def WotsVerifiesUptoCardSaid : Prop := Claim7.holds Tryd.pinned (.plain (OpenSpec.upto wotsVerifiesSpec)) wotsVerifiesUptoCard

/-- THE SECOND FORM's CARD OF 'liverylaw11.XmssNone'. -/
def xmssNoneUptoCard : Claim7 := { stood := { row := xmssNoneUptoRow, standIns := [], harness := (true, "530b832309f3b2e7f5e250f4f225ada94d81113330c8d916f60228bf50ddf04d"), looks := false }, kinds := [], alts := [], laidByText := true, laidKinds := [.data, .data], laidTests := true, laidLooks := .later }
def XmssNoneUptoCardSaid : Prop := Claim7.holds Tryd.pinned (.plain (OpenSpec.upto xmssNoneSpec)) xmssNoneUptoCard

/-- THE SECOND FORM's CARD OF 'liverylaw08.LmsRight'. -/
def lmsRightUptoCard : Claim7 := { stood := { row := lmsRightUptoRow, standIns := [], harness := (true, "530b832309f3b2e7f5e250f4f225ada94d81113330c8d916f60228bf50ddf04d"), looks := false }, kinds := [], alts := [], laidByText := true, laidKinds := [.data, .data], laidTests := true, laidLooks := .later }
def LmsRightUptoCardSaid : Prop := Claim7.holds Tryd.pinned (.plain (OpenSpec.upto lmsRightSpec)) lmsRightUptoCard

/-- THE SECOND FORM's CARD OF 'liverylaw08.LmsNone'. -/
def lmsNoneUptoCard : Claim7 := { stood := { row := lmsNoneUptoRow, standIns := [], harness := (true, "530b832309f3b2e7f5e250f4f225ada94d81113330c8d916f60228bf50ddf04d"), looks := false }, kinds := [], alts := [], laidByText := true, laidKinds := [.data, .data], laidTests := true, laidLooks := .later }
def LmsNoneUptoCardSaid : Prop := Claim7.holds Tryd.pinned (.plain (OpenSpec.upto lmsNoneSpec)) lmsNoneUptoCard
end Rows
end Go.Proofs.YtkpeoplkldpmlaaDoor
