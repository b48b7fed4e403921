/-
  DERIVED. GIVEN WITH THE SEED: THE CARDS: each row of YtneapgbkkkjagaaGreatDoorRows.lean that lists a variable, with what it lists TIED to the program's text (the seventh form; the later family's looks); each row that meets fmt, with fmt's text TOLD by the authors' own Lean function (tested against real Go, not proved from fmt's source: count such statements apart). THE CARD IS WHAT COUNTS. Prove the row's statement (the work); the ties are given (YtneapgbkkkjagaaGreatDoorTie.lean); close each card by the builder's one call (the guide's Derived/Test/ToyasCard.lean, 'card_holds'). Laid BY PROGRAM, IN A SANDBOX (cutbox-door.mjs). By AI agents, Wed Nov 11 2026. No macro, syntax, notation, axiom, sorry.
-/
import Derived.Test.YtneapgbkkkjagaaGreatDoorRows
import GoSem.ClaimSeven
namespace Go.Proofs.YtneapgbkkkjagaaGreatDoor
namespace Rows

/-- THE TIED CARD OF 'apodixislaw07.VerifyProofs'. -/
def verifyProofsCard : Claim7 := { stood := { row := verifyProofsRow, standIns := [], harness := (true, "0a8a130afa2649882016d9b8eeef7091952c22bdf9ebf03b40337dc676198be4"), looks := true }, kinds := [], alts := [], laidByText := true, laidKinds := [.widerDeep], laidTests := true, laidLooks := .later }
def VerifyProofsCardSaid : Prop := Claim7.holds Tryz.pinned (.plain (OpenSpec.ofChange verifyProofsSpec)) verifyProofsCard

/-- THE TIED CARD OF 'apodixislaw07.VerifyTheorems'. -/
def verifyTheoremsCard : Claim7 := { stood := { row := verifyTheoremsRow, standIns := [], harness := (true, "0a8a130afa2649882016d9b8eeef7091952c22bdf9ebf03b40337dc676198be4"), looks := true }, kinds := [], alts := [], laidByText := true, laidKinds := [.widerDeep], laidTests := true, laidLooks := .later }
def VerifyTheoremsCardSaid : Prop := Claim7.holds Tryz.pinned (.plain (OpenSpec.ofChange verifyTheoremsSpec)) verifyTheoremsCard

/-- THE TIED CARD OF 'apodixislaw07.VerifyMachines'. -/
def verifyMachinesCard : Claim7 := { stood := { row := verifyMachinesRow, standIns := [], harness := (true, "0a8a130afa2649882016d9b8eeef7091952c22bdf9ebf03b40337dc676198be4"), looks := true }, kinds := [], alts := [], laidByText := true, laidKinds := [.widerDeep], laidTests := true, laidLooks := .later }
def VerifyMachinesCardSaid : Prop := Claim7.holds Tryz.pinned (.plain (OpenSpec.ofChange verifyMachinesSpec)) verifyMachinesCard

/-- THE SECOND FORM's CARD OF 'apodixislaw07.VerifyProofs'. -/
def verifyProofsUptoCard : Claim7 := { stood := { row := verifyProofsUptoRow, standIns := [], harness := (true, "0a8a130afa2649882016d9b8eeef7091952c22bdf9ebf03b40337dc676198be4"), looks := true }, kinds := [], alts := [], laidByText := true, laidKinds := [.widerDeep], laidTests := true, laidLooks := .later }
def VerifyProofsUptoCardSaid : Prop := Claim7.holds Tryz.pinned (.plain (OpenSpec.upto verifyProofsSpec)) verifyProofsUptoCard

/-- THE SECOND FORM's CARD OF 'apodixislaw07.VerifyTheorems'. -/
def verifyTheoremsUptoCard : Claim7 := { stood := { row := verifyTheoremsUptoRow, standIns := [], harness := (true, "0a8a130afa2649882016d9b8eeef7091952c22bdf9ebf03b40337dc676198be4"), looks := true }, kinds := [], alts := [], laidByText := true, laidKinds := [.widerDeep], laidTests := true, laidLooks := .later }
def VerifyTheoremsUptoCardSaid : Prop := Claim7.holds Tryz.pinned (.plain (OpenSpec.upto verifyTheoremsSpec)) verifyTheoremsUptoCard

/-- THE SECOND FORM's CARD OF 'apodixislaw07.VerifyMachines'. -/
def verifyMachinesUptoCard : Claim7 := { stood := { row := verifyMachinesUptoRow, standIns := [], harness := (true, "0a8a130afa2649882016d9b8eeef7091952c22bdf9ebf03b40337dc676198be4"), looks := true }, kinds := [], alts := [], laidByText := true, laidKinds := [.widerDeep], laidTests := true, laidLooks := .later }
def VerifyMachinesUptoCardSaid : Prop := Claim7.holds Tryz.pinned (.plain (OpenSpec.upto verifyMachinesSpec)) verifyMachinesUptoCard
end Rows
end Go.Proofs.YtneapgbkkkjagaaGreatDoor
