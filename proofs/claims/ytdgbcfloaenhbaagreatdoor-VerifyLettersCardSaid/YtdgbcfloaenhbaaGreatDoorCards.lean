/-
  DERIVED. GIVEN WITH THE SEED: THE CARDS: each row of YtdgbcfloaenhbaaGreatDoorRows.lean that lists a variable, with what it lists TIED to the program's text (the seventh form; the later family's looks); each row that meets fmt, with fmt's text TOLD by the authors' own Lean function (tested against real Go, not proved from fmt's source: count such statements apart). THE CARD IS WHAT COUNTS. Prove the row's statement (the work); the ties are given (YtdgbcfloaenhbaaGreatDoorTie.lean); close each card by the builder's one call (the guide's Derived/Test/ToyasCard.lean, 'card_holds'). Laid BY PROGRAM, IN A SANDBOX (cutbox-door.mjs). By AI agents, Wed Nov 11 2026. No macro, syntax, notation, axiom, sorry.
-/
import Derived.Test.YtdgbcfloaenhbaaGreatDoorRows
import GoSem.ClaimSeven
namespace Go.Proofs.YtdgbcfloaenhbaaGreatDoor
namespace Rows

/-- THE TIED CARD OF 'apodixislaw07.VerifyLetters'. -/
def verifyLettersCard : Claim7 := { stood := { row := verifyLettersRow, standIns := [], harness := (true, "38687d9995b41e7ca5cf1c1ceb54e70d257c8552176d05b654fe56eb3dd2926f"), looks := true }, kinds := [], alts := [], laidByText := true, laidKinds := [.widerDeep], laidTests := true, laidLooks := .later }
def VerifyLettersCardSaid : Prop := Claim7.holds Tryz.pinned (.plain (OpenSpec.ofChange verifyLettersSpec)) verifyLettersCard

/-- THE SECOND FORM's CARD OF 'apodixislaw07.VerifyLetters'. -/
def verifyLettersUptoCard : Claim7 := { stood := { row := verifyLettersUptoRow, standIns := [], harness := (true, "38687d9995b41e7ca5cf1c1ceb54e70d257c8552176d05b654fe56eb3dd2926f"), looks := true }, kinds := [], alts := [], laidByText := true, laidKinds := [.widerDeep], laidTests := true, laidLooks := .later }
def VerifyLettersUptoCardSaid : Prop := Claim7.holds Tryz.pinned (.plain (OpenSpec.upto verifyLettersSpec)) verifyLettersUptoCard
end Rows
end Go.Proofs.YtdgbcfloaenhbaaGreatDoor
