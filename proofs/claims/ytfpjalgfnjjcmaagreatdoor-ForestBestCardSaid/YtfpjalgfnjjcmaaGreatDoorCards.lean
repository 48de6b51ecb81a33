/-
  DERIVED. GIVEN WITH THE SEED: THE CARDS: each row of YtfpjalgfnjjcmaaGreatDoorRows.lean that lists a variable, with what it lists TIED to the program's text (the seventh form; the later family's looks); each row that meets fmt, with fmt's text TOLD by the authors' own Lean function (tested against real Go, not proved from fmt's source: count such statements apart). THE CARD IS WHAT COUNTS. Prove the row's statement (the work); the ties are given (YtfpjalgfnjjcmaaGreatDoorTie.lean); close each card by the builder's one call (the guide's Derived/Test/ToyasCard.lean, 'card_holds'). Laid BY PROGRAM, IN A SANDBOX (cutbox-door.mjs). By AI agents, Wed Nov 11 2026. No macro, syntax, notation, axiom, sorry.
-/
import Derived.Test.YtfpjalgfnjjcmaaGreatDoorRows
import GoSem.ClaimSeven
namespace Go.Proofs.YtfpjalgfnjjcmaaGreatDoor
namespace Rows

/-- THE TIED CARD OF 'scantlinglaw14.ForestBest'. -/
def forestBestCard : Claim7 := { stood := { row := forestBestRow, standIns := [], harness := (true, "6d1b003d307298fb9937feb958a1e857f3544c9c5a7610d1b6332fcfa688ba0a"), looks := false }, kinds := [], alts := [], laidByText := true, laidKinds := [.data], laidTests := true, laidLooks := .later }
def ForestBestCardSaid : Prop := Claim7.holds Tryz.pinned (.plain (OpenSpec.ofChange forestBestSpec)) forestBestCard

/-- THE TIED CARD OF 'scantlinglaw14.ForestRoom'. -/
def forestRoomCard : Claim7 := { stood := { row := forestRoomRow, standIns := [], harness := (true, "6d1b003d307298fb9937feb958a1e857f3544c9c5a7610d1b6332fcfa688ba0a"), looks := false }, kinds := [], alts := [], laidByText := true, laidKinds := [.data], laidTests := true, laidLooks := .later }
def ForestRoomCardSaid : Prop := Claim7.holds Tryz.pinned (.plain (OpenSpec.ofChange forestRoomSpec)) forestRoomCard

/-- THE TIED CARD OF 'scantlinglaw14.ForestPlays'. -/
def forestPlaysCard : Claim7 := { stood := { row := forestPlaysRow, standIns := [], harness := (true, "6d1b003d307298fb9937feb958a1e857f3544c9c5a7610d1b6332fcfa688ba0a"), looks := false }, kinds := [], alts := [], laidByText := true, laidKinds := [.data], laidTests := true, laidLooks := .later }
def ForestPlaysCardSaid : Prop := Claim7.holds Tryz.pinned (.plain (OpenSpec.ofChange forestPlaysSpec)) forestPlaysCard

/-- THE TIED CARD OF 'scantlinglaw14.ForestNil'. -/
def forestNilCard : Claim7 := { stood := { row := forestNilRow, standIns := [], harness := (true, "6d1b003d307298fb9937feb958a1e857f3544c9c5a7610d1b6332fcfa688ba0a"), looks := false }, kinds := [], alts := [], laidByText := true, laidKinds := [.data], laidTests := true, laidLooks := .later }
def ForestNilCardSaid : Prop := Claim7.holds Tryz.pinned (.plain (OpenSpec.ofChange forestNilSpec)) forestNilCard

/-- THE SECOND FORM's CARD OF 'scantlinglaw14.ForestBest'. -/
def forestBestUptoCard : Claim7 := { stood := { row := forestBestUptoRow, standIns := [], harness := (true, "6d1b003d307298fb9937feb958a1e857f3544c9c5a7610d1b6332fcfa688ba0a"), looks := false }, kinds := [], alts := [], laidByText := true, laidKinds := [.data], laidTests := true, laidLooks := .later }
def ForestBestUptoCardSaid : Prop := Claim7.holds Tryz.pinned (.plain (OpenSpec.upto forestBestSpec)) forestBestUptoCard

/-- THE SECOND FORM's CARD OF 'scantlinglaw14.ForestRoom'. -/
def forestRoomUptoCard : Claim7 := { stood := { row := forestRoomUptoRow, standIns := [], harness := (true, "6d1b003d307298fb9937feb958a1e857f3544c9c5a7610d1b6332fcfa688ba0a"), looks := false }, kinds := [], alts := [], laidByText := true, laidKinds := [.data], laidTests := true, laidLooks := .later }
def ForestRoomUptoCardSaid : Prop := Claim7.holds Tryz.pinned (.plain (OpenSpec.upto forestRoomSpec)) forestRoomUptoCard

/-- THE SECOND FORM's CARD OF 'scantlinglaw14.ForestPlays'. -/
def forestPlaysUptoCard : Claim7 := { stood := { row := forestPlaysUptoRow, standIns := [], harness := (true, "6d1b003d307298fb9937feb958a1e857f3544c9c5a7610d1b6332fcfa688ba0a"), looks := false }, kinds := [], alts := [], laidByText := true, laidKinds := [.data], laidTests := true, laidLooks := .later }
def ForestPlaysUptoCardSaid : Prop := Claim7.holds Tryz.pinned (.plain (OpenSpec.upto forestPlaysSpec)) forestPlaysUptoCard

/-- THE SECOND FORM's CARD OF 'scantlinglaw14.ForestNil'. -/
def forestNilUptoCard : Claim7 := { stood := { row := forestNilUptoRow, standIns := [], harness := (true, "6d1b003d307298fb9937feb958a1e857f3544c9c5a7610d1b6332fcfa688ba0a"), looks := false }, kinds := [], alts := [], laidByText := true, laidKinds := [.data], laidTests := true, laidLooks := .later }
def ForestNilUptoCardSaid : Prop := Claim7.holds Tryz.pinned (.plain (OpenSpec.upto forestNilSpec)) forestNilUptoCard
end Rows
end Go.Proofs.YtfpjalgfnjjcmaaGreatDoor
