/-
  DERIVED. GIVEN WITH THE SEED: THE CARDS: each row of YtmcbdlefakjpoaaDoorRows.lean that lists a variable, with what it lists TIED to the program's text (the seventh form; the later family's looks); each row that meets fmt, with fmt's text TOLD by the authors' own Lean function (tested against real Go, not proved from fmt's source: count such statements apart). THE CARD IS WHAT COUNTS. Prove the row's statement (the work); the ties are given (YtmcbdlefakjpoaaDoorTie.lean); close each card by the builder's one call (the guide's Derived/Test/ToyasCard.lean, 'card_holds'). Laid BY PROGRAM, IN A SANDBOX (cutbox-door.mjs). By AI agents, Wed Nov 11 2026. No macro, syntax, notation, axiom, sorry.
-/
import Derived.Test.YtmcbdlefakjpoaaDoorRows
import GoSem.ClaimSeven
namespace Go.Proofs.YtmcbdlefakjpoaaDoor
namespace Rows

/-- THE TIED CARD OF 'scantlinglaw29.FilterPlays'. -/
def filterPlaysCard : Claim7 := { stood := { row := filterPlaysRow, standIns := [], harness := (true, "cd9a647b48ac6e4292c684ecf8c6638ee98b4204ce6a369c4893f434f101dd68"), looks := false }, kinds := [], alts := [], laidByText := true, laidKinds := [.data], laidTests := true, laidLooks := .later }
def FilterPlaysCardSaid : Prop := Claim7.holds Tryd.pinned (.plain (OpenSpec.ofChange filterPlaysSpec)) filterPlaysCard

/-- THE TIED CARD OF 'scantlinglaw29.FilterFinds'. -/
def filterFindsCard : Claim7 := { stood := { row := filterFindsRow, standIns := [], harness := (true, "cd9a647b48ac6e4292c684ecf8c6638ee98b4204ce6a369c4893f434f101dd68"), looks := false }, kinds := [], alts := [], laidByText := true, laidKinds := [.data], laidTests := true, laidLooks := .later }
def FilterFindsCardSaid : Prop := Claim7.holds Tryd.pinned (.plain (OpenSpec.ofChange filterFindsSpec)) filterFindsCard

/-- THE TIED CARD OF 'scantlinglaw29.FilterEither'. -/
def filterEitherCard : Claim7 := { stood := { row := filterEitherRow, standIns := [], harness := (true, "cd9a647b48ac6e4292c684ecf8c6638ee98b4204ce6a369c4893f434f101dd68"), looks := false }, kinds := [], alts := [], laidByText := true, laidKinds := [.data], laidTests := true, laidLooks := .later }
def FilterEitherCardSaid : Prop := Claim7.holds Tryd.pinned (.plain (OpenSpec.ofChange filterEitherSpec)) filterEitherCard

/-- THE SECOND FORM's CARD OF 'scantlinglaw29.FilterPlays'. -/
def filterPlaysUptoCard : Claim7 := { stood := { row := filterPlaysUptoRow, standIns := [], harness := (true, "cd9a647b48ac6e4292c684ecf8c6638ee98b4204ce6a369c4893f434f101dd68"), looks := false }, kinds := [], alts := [], laidByText := true, laidKinds := [.data], laidTests := true, laidLooks := .later }
def FilterPlaysUptoCardSaid : Prop := Claim7.holds Tryd.pinned (.plain (OpenSpec.upto filterPlaysSpec)) filterPlaysUptoCard

/-- THE SECOND FORM's CARD OF 'scantlinglaw29.FilterFinds'. -/
def filterFindsUptoCard : Claim7 := { stood := { row := filterFindsUptoRow, standIns := [], harness := (true, "cd9a647b48ac6e4292c684ecf8c6638ee98b4204ce6a369c4893f434f101dd68"), looks := false }, kinds := [], alts := [], laidByText := true, laidKinds := [.data], laidTests := true, laidLooks := .later }
def FilterFindsUptoCardSaid : Prop := Claim7.holds Tryd.pinned (.plain (OpenSpec.upto filterFindsSpec)) filterFindsUptoCard

/-- THE SECOND FORM's CARD OF 'scantlinglaw29.FilterEither'. -/
def filterEitherUptoCard : Claim7 := { stood := { row := filterEitherUptoRow, standIns := [], harness := (true, "cd9a647b48ac6e4292c684ecf8c6638ee98b4204ce6a369c4893f434f101dd68"), looks := false }, kinds := [], alts := [], laidByText := true, laidKinds := [.data], laidTests := true, laidLooks := .later }
def FilterEitherUptoCardSaid : Prop := Claim7.holds Tryd.pinned (.plain (OpenSpec.upto filterEitherSpec)) filterEitherUptoCard
end Rows
end Go.Proofs.YtmcbdlefakjpoaaDoor
