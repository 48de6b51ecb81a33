/-
  DERIVED. GIVEN WITH THE SEED: THE CARDS: each row of YtolaljbainjjaaaDoorRows.lean that lists a variable, with what it lists TIED to the program's text (the seventh form; the later family's looks); each row that meets fmt, with fmt's text TOLD by the authors' own Lean function (tested against real Go, not proved from fmt's source: count such statements apart). THE CARD IS WHAT COUNTS. Prove the row's statement (the work); the ties are given (YtolaljbainjjaaaDoorTie.lean); close each card by the builder's one call (the guide's Derived/Test/ToyasCard.lean, 'card_holds'). Laid BY PROGRAM, IN A SANDBOX (cutbox-door.mjs). By AI agents, Wed Nov 11 2026. No macro, syntax, notation, axiom, sorry.
-/
import Derived.Test.YtolaljbainjjaaaDoorRows
import GoSem.ClaimSeven
namespace Go.Proofs.YtolaljbainjjaaaDoor
namespace Rows

/-- THE TIED CARD OF 'scantlinglaw13.RulesTurns'. -/
def rulesTurnsCard : Claim7 := { stood := { row := rulesTurnsRow, standIns := [], harness := (true, "0ef597d240cbcf1304a636a65f108ba056276cc4c1dfcc35c6d1db0c02e02b93"), looks := false }, kinds := [], alts := [], laidByText := true, laidKinds := [.data], laidTests := true, laidLooks := .later }
def RulesTurnsCardSaid : Prop := Claim7.holds Tryd.pinned (.plain (OpenSpec.ofChange rulesTurnsSpec)) rulesTurnsCard

/-- THE TIED CARD OF 'scantlinglaw13.RulesMedian'. -/
def rulesMedianCard : Claim7 := { stood := { row := rulesMedianRow, standIns := [], harness := (true, "0ef597d240cbcf1304a636a65f108ba056276cc4c1dfcc35c6d1db0c02e02b93"), looks := false }, kinds := [], alts := [], laidByText := true, laidKinds := [.data], laidTests := true, laidLooks := .later }
def RulesMedianCardSaid : Prop := Claim7.holds Tryd.pinned (.plain (OpenSpec.ofChange rulesMedianSpec)) rulesMedianCard

/-- THE TIED CARD OF 'scantlinglaw13.RulesPoints'. -/
def rulesPointsCard : Claim7 := { stood := { row := rulesPointsRow, standIns := [], harness := (true, "0ef597d240cbcf1304a636a65f108ba056276cc4c1dfcc35c6d1db0c02e02b93"), looks := false }, kinds := [], alts := [], laidByText := true, laidKinds := [.data], laidTests := true, laidLooks := .later }
def RulesPointsCardSaid : Prop := Claim7.holds Tryd.pinned (.plain (OpenSpec.ofChange rulesPointsSpec)) rulesPointsCard

/-- THE SECOND FORM's CARD OF 'scantlinglaw13.RulesTurns'. -/
def rulesTurnsUptoCard : Claim7 := { stood := { row := rulesTurnsUptoRow, standIns := [], harness := (true, "0ef597d240cbcf1304a636a65f108ba056276cc4c1dfcc35c6d1db0c02e02b93"), looks := false }, kinds := [], alts := [], laidByText := true, laidKinds := [.data], laidTests := true, laidLooks := .later }
def RulesTurnsUptoCardSaid : Prop := Claim7.holds Tryd.pinned (.plain (OpenSpec.upto rulesTurnsSpec)) rulesTurnsUptoCard

/-- THE SECOND FORM's CARD OF 'scantlinglaw13.RulesMedian'. -/
def rulesMedianUptoCard : Claim7 := { stood := { row := rulesMedianUptoRow, standIns := [], harness := (true, "0ef597d240cbcf1304a636a65f108ba056276cc4c1dfcc35c6d1db0c02e02b93"), looks := false }, kinds := [], alts := [], laidByText := true, laidKinds := [.data], laidTests := true, laidLooks := .later }
def RulesMedianUptoCardSaid : Prop := Claim7.holds Tryd.pinned (.plain (OpenSpec.upto rulesMedianSpec)) rulesMedianUptoCard

/-- THE SECOND FORM's CARD OF 'scantlinglaw13.RulesPoints'. -/
def rulesPointsUptoCard : Claim7 := { stood := { row := rulesPointsUptoRow, standIns := [], harness := (true, "0ef597d240cbcf1304a636a65f108ba056276cc4c1dfcc35c6d1db0c02e02b93"), looks := false }, kinds := [], alts := [], laidByText := true, laidKinds := [.data], laidTests := true, laidLooks := .later }
def RulesPointsUptoCardSaid : Prop := Claim7.holds Tryd.pinned (.plain (OpenSpec.upto rulesPointsSpec)) rulesPointsUptoCard
end Rows
end Go.Proofs.YtolaljbainjjaaaDoor
