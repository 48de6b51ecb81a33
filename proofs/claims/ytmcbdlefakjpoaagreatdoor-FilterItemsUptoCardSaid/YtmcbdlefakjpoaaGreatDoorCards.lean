/-
  DERIVED. GIVEN WITH THE SEED: THE CARDS: each row of YtmcbdlefakjpoaaGreatDoorRows.lean that lists a variable, with what it lists TIED to the program's text (the seventh form; the later family's looks); each row that meets fmt, with fmt's text TOLD by the authors' own Lean function (tested against real Go, not proved from fmt's source: count such statements apart). THE CARD IS WHAT COUNTS. Prove the row's statement (the work); the ties are given (YtmcbdlefakjpoaaGreatDoorTie.lean); close each card by the builder's one call (the guide's Derived/Test/ToyasCard.lean, 'card_holds'). Laid BY PROGRAM, IN A SANDBOX (cutbox-door.mjs). By AI agents, Wed Nov 11 2026. No macro, syntax, notation, axiom, sorry.
-/
import Derived.Test.YtmcbdlefakjpoaaGreatDoorRows
import GoSem.ClaimSeven
namespace Go.Proofs.YtmcbdlefakjpoaaGreatDoor
namespace Rows

/-- THE TIED CARD OF 'scantlinglaw29.FilterItems'. -/
def filterItemsCard : Claim7 := { stood := { row := filterItemsRow, standIns := [], harness := (true, "29baa6fe0a1bf4f086c5335bd394a1442f9c31911446a485fdfce17239dba73d"), looks := false }, kinds := [], alts := [], laidByText := true, laidKinds := [.data], laidTests := true, laidLooks := .later }
def FilterItemsCardSaid : Prop := Claim7.holds Tryz.pinned (.plain (OpenSpec.ofChange filterItemsSpec)) filterItemsCard

/-- THE TIED CARD OF 'scantlinglaw29.FilterBlocks'. -/
def filterBlocksCard : Claim7 := { stood := { row := filterBlocksRow, standIns := [], harness := (true, "29baa6fe0a1bf4f086c5335bd394a1442f9c31911446a485fdfce17239dba73d"), looks := false }, kinds := [], alts := [], laidByText := true, laidKinds := [.data], laidTests := true, laidLooks := .later }
def FilterBlocksCardSaid : Prop := Claim7.holds Tryz.pinned (.plain (OpenSpec.ofChange filterBlocksSpec)) filterBlocksCard

/-- THE SECOND FORM's CARD OF 'scantlinglaw29.FilterItems'. -/
def filterItemsUptoCard : Claim7 := { stood := { row := filterItemsUptoRow, standIns := [], harness := (true, "29baa6fe0a1bf4f086c5335bd394a1442f9c31911446a485fdfce17239dba73d"), looks := false }, kinds := [], alts := [], laidByText := true, laidKinds := [.data], laidTests := true, laidLooks := .later }
def FilterItemsUptoCardSaid : Prop := Claim7.holds Tryz.pinned (.plain (OpenSpec.upto filterItemsSpec)) filterItemsUptoCard

/-- THE SECOND FORM's CARD OF 'scantlinglaw29.FilterBlocks'. -/
def filterBlocksUptoCard : Claim7 := { stood := { row := filterBlocksUptoRow, standIns := [], harness := (true, "29baa6fe0a1bf4f086c5335bd394a1442f9c31911446a485fdfce17239dba73d"), looks := false }, kinds := [], alts := [], laidByText := true, laidKinds := [.data], laidTests := true, laidLooks := .later }
def FilterBlocksUptoCardSaid : Prop := Claim7.holds Tryz.pinned (.plain (OpenSpec.upto filterBlocksSpec)) filterBlocksUptoCard
end Rows
end Go.Proofs.YtmcbdlefakjpoaaGreatDoor
