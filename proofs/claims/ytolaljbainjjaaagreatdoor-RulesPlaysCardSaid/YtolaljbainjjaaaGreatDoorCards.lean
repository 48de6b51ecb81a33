/-
  DERIVED. GIVEN WITH THE SEED: THE CARDS: each row of YtolaljbainjjaaaGreatDoorRows.lean that lists a variable, with what it lists TIED to the program's text (the seventh form; the later family's looks); each row that meets fmt, with fmt's text TOLD by the authors' own Lean function (tested against real Go, not proved from fmt's source: count such statements apart). THE CARD IS WHAT COUNTS. Prove the row's statement (the work); the ties are given (YtolaljbainjjaaaGreatDoorTie.lean); close each card by the builder's one call (the guide's Derived/Test/ToyasCard.lean, 'card_holds'). Laid BY PROGRAM, IN A SANDBOX (cutbox-door.mjs). By AI agents, Wed Nov 11 2026. No macro, syntax, notation, axiom, sorry.
-/
import Derived.Test.YtolaljbainjjaaaGreatDoorRows
import GoSem.ClaimSeven
namespace Go.Proofs.YtolaljbainjjaaaGreatDoor
namespace Rows

/-- THE TIED CARD OF 'scantlinglaw13.RulesPlays'. -/
def rulesPlaysCard : Claim7 := { stood := { row := rulesPlaysRow, standIns := [], harness := (true, "d7526a6cf5a9faa07d6b81eb485da84dc2c5c0a5a194af7ad3723a4655afea23"), looks := false }, kinds := [], alts := [], laidByText := true, laidKinds := [.data], laidTests := true, laidLooks := .later }
def RulesPlaysCardSaid : Prop := Claim7.holds Tryz.pinned (.plain (OpenSpec.ofChange rulesPlaysSpec)) rulesPlaysCard

/-- THE TIED CARD OF 'scantlinglaw13.RulesChain'. -/
def rulesChainCard : Claim7 := { stood := { row := rulesChainRow, standIns := [], harness := (true, "d7526a6cf5a9faa07d6b81eb485da84dc2c5c0a5a194af7ad3723a4655afea23"), looks := false }, kinds := [], alts := [], laidByText := true, laidKinds := [.data], laidTests := true, laidLooks := .later }
def RulesChainCardSaid : Prop := Claim7.holds Tryz.pinned (.plain (OpenSpec.ofChange rulesChainSpec)) rulesChainCard

/-- THE SECOND FORM's CARD OF 'scantlinglaw13.RulesPlays'. -/
def rulesPlaysUptoCard : Claim7 := { stood := { row := rulesPlaysUptoRow, standIns := [], harness := (true, "d7526a6cf5a9faa07d6b81eb485da84dc2c5c0a5a194af7ad3723a4655afea23"), looks := false }, kinds := [], alts := [], laidByText := true, laidKinds := [.data], laidTests := true, laidLooks := .later }
def RulesPlaysUptoCardSaid : Prop := Claim7.holds Tryz.pinned (.plain (OpenSpec.upto rulesPlaysSpec)) rulesPlaysUptoCard

/-- THE SECOND FORM's CARD OF 'scantlinglaw13.RulesChain'. -/
def rulesChainUptoCard : Claim7 := { stood := { row := rulesChainUptoRow, standIns := [], harness := (true, "d7526a6cf5a9faa07d6b81eb485da84dc2c5c0a5a194af7ad3723a4655afea23"), looks := false }, kinds := [], alts := [], laidByText := true, laidKinds := [.data], laidTests := true, laidLooks := .later }
def RulesChainUptoCardSaid : Prop := Claim7.holds Tryz.pinned (.plain (OpenSpec.upto rulesChainSpec)) rulesChainUptoCard
end Rows
end Go.Proofs.YtolaljbainjjaaaGreatDoor
