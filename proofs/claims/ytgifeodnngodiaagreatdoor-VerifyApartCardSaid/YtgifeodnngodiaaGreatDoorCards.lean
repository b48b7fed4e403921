/-
  DERIVED. GIVEN WITH THE SEED: THE CARDS: each row of YtgifeodnngodiaaGreatDoorRows.lean that lists a variable, with what it lists TIED to the program's text (the seventh form; the later family's looks); each row that meets fmt, with fmt's text TOLD by the authors' own Lean function (tested against real Go, not proved from fmt's source: count such statements apart). THE CARD IS WHAT COUNTS. Prove the row's statement (the work); the ties are given (YtgifeodnngodiaaGreatDoorTie.lean); close each card by the builder's one call (the guide's Derived/Test/ToyasCard.lean, 'card_holds'). Laid BY PROGRAM, IN A SANDBOX (cutbox-door.mjs). By AI agents, Wed Nov 11 2026. No macro, syntax, notation, axiom, sorry.
-/
import Derived.Test.YtgifeodnngodiaaGreatDoorRows
import GoSem.ClaimSeven
namespace Go.Proofs.YtgifeodnngodiaaGreatDoor
namespace Rows

/-- THE TIED CARD OF 'apodixislaw07.VerifyAhead'. -/
def verifyAheadCard : Claim7 := { stood := { row := verifyAheadRow, standIns := [], harness := (true, "9725915497aeeb314430c7a0b059b68645cabb1a99e9736467cfed7d87e8a76b"), looks := true }, kinds := [], alts := [], laidByText := true, laidKinds := [.widerDeep], laidTests := true, laidLooks := .later }
def VerifyAheadCardSaid : Prop := Claim7.holds Tryz.pinned (.plain (OpenSpec.ofChange verifyAheadSpec)) verifyAheadCard

/-- THE TIED CARD OF 'apodixislaw07.VerifyCuts'. -/
def verifyCutsCard : Claim7 := { stood := { row := verifyCutsRow, standIns := [], harness := (true, "9725915497aeeb314430c7a0b059b68645cabb1a99e9736467cfed7d87e8a76b"), looks := true }, kinds := [], alts := [], laidByText := true, laidKinds := [.widerDeep], laidTests := true, laidLooks := .later }
def VerifyCutsCardSaid : Prop := Claim7.holds Tryz.pinned (.plain (OpenSpec.ofChange verifyCutsSpec)) verifyCutsCard

/-- THE TIED CARD OF 'apodixislaw07.VerifyRuns'. -/
def verifyRunsCard : Claim7 := { stood := { row := verifyRunsRow, standIns := [], harness := (true, "9725915497aeeb314430c7a0b059b68645cabb1a99e9736467cfed7d87e8a76b"), looks := true }, kinds := [], alts := [], laidByText := true, laidKinds := [.widerDeep], laidTests := true, laidLooks := .later }
def VerifyRunsCardSaid : Prop := Claim7.holds Tryz.pinned (.plain (OpenSpec.ofChange verifyRunsSpec)) verifyRunsCard

/-- THE TIED CARD OF 'apodixislaw07.VerifyApart'. -/
def verifyApartCard : Claim7 := { stood := { row := verifyApartRow, standIns := [], harness := (true, "9725915497aeeb314430c7a0b059b68645cabb1a99e9736467cfed7d87e8a76b"), looks := true }, kinds := [], alts := [], laidByText := true, laidKinds := [.widerDeep], laidTests := true, laidLooks := .later }
def VerifyApartCardSaid : Prop := Claim7.holds Tryz.pinned (.plain (OpenSpec.ofChange verifyApartSpec)) verifyApartCard

/-- THE SECOND FORM's CARD OF 'apodixislaw07.VerifyAhead'. -/
def verifyAheadUptoCard : Claim7 := { stood := { row := verifyAheadUptoRow, standIns := [], harness := (true, "9725915497aeeb314430c7a0b059b68645cabb1a99e9736467cfed7d87e8a76b"), looks := true }, kinds := [], alts := [], laidByText := true, laidKinds := [.widerDeep], laidTests := true, laidLooks := .later }
def VerifyAheadUptoCardSaid : Prop := Claim7.holds Tryz.pinned (.plain (OpenSpec.upto verifyAheadSpec)) verifyAheadUptoCard

/-- THE SECOND FORM's CARD OF 'apodixislaw07.VerifyCuts'. -/
def verifyCutsUptoCard : Claim7 := { stood := { row := verifyCutsUptoRow, standIns := [], harness := (true, "9725915497aeeb314430c7a0b059b68645cabb1a99e9736467cfed7d87e8a76b"), looks := true }, kinds := [], alts := [], laidByText := true, laidKinds := [.widerDeep], laidTests := true, laidLooks := .later }
def VerifyCutsUptoCardSaid : Prop := Claim7.holds Tryz.pinned (.plain (OpenSpec.upto verifyCutsSpec)) verifyCutsUptoCard

/-- THE SECOND FORM's CARD OF 'apodixislaw07.VerifyRuns'. -/
def verifyRunsUptoCard : Claim7 := { stood := { row := verifyRunsUptoRow, standIns := [], harness := (true, "9725915497aeeb314430c7a0b059b68645cabb1a99e9736467cfed7d87e8a76b"), looks := true }, kinds := [], alts := [], laidByText := true, laidKinds := [.widerDeep], laidTests := true, laidLooks := .later }
def VerifyRunsUptoCardSaid : Prop := Claim7.holds Tryz.pinned (.plain (OpenSpec.upto verifyRunsSpec)) verifyRunsUptoCard

/-- THE SECOND FORM's CARD OF 'apodixislaw07.VerifyApart'. -/
def verifyApartUptoCard : Claim7 := { stood := { row := verifyApartUptoRow, standIns := [], harness := (true, "9725915497aeeb314430c7a0b059b68645cabb1a99e9736467cfed7d87e8a76b"), looks := true }, kinds := [], alts := [], laidByText := true, laidKinds := [.widerDeep], laidTests := true, laidLooks := .later }
def VerifyApartUptoCardSaid : Prop := Claim7.holds Tryz.pinned (.plain (OpenSpec.upto verifyApartSpec)) verifyApartUptoCard
end Rows
end Go.Proofs.YtgifeodnngodiaaGreatDoor
