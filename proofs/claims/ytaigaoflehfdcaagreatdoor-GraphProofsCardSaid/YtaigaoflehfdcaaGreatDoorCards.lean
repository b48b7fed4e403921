/-
  DERIVED. GIVEN WITH THE SEED: THE CARDS: each row of YtaigaoflehfdcaaGreatDoorRows.lean that lists a variable, with what it lists TIED to the program's text (the seventh form; the later family's looks); each row that meets fmt, with fmt's text TOLD by the authors' own Lean function (tested against real Go, not proved from fmt's source: count such statements apart). THE CARD IS WHAT COUNTS. Prove the row's statement (the work); the ties are given (YtaigaoflehfdcaaGreatDoorTie.lean); close each card by the builder's one call (the guide's Derived/Test/ToyasCard.lean, 'card_holds'). Laid BY PROGRAM, IN A SANDBOX (cutbox-door.mjs). By AI agents, Wed Nov 11 2026. No macro, syntax, notation, axiom, sorry.
-/
import Derived.Test.YtaigaoflehfdcaaGreatDoorRows
import GoSem.ClaimSeven
namespace Go.Proofs.YtaigaoflehfdcaaGreatDoor
namespace Rows

/-- THE TIED CARD OF 'apodixislaw09.GraphProofs'. -/
def graphProofsCard : Claim7 := { stood := { row := graphProofsRow, standIns := [], harness := (true, "328ae3ca5b324e077783517057b3ae1efef9cf409d3714fdb0b2ac3f1300c591"), looks := true }, kinds := [], alts := [], laidByText := true, laidKinds := [.data, .data, .data, .widerDeep], laidTests := true, laidLooks := .later }
def GraphProofsCardSaid : Prop := Claim7.holds Tryz.pinned (.plain (OpenSpec.ofChange graphProofsSpec)) graphProofsCard

/-- THE TIED CARD OF 'apodixislaw09.GraphTheorems'. -/
def graphTheoremsCard : Claim7 := { stood := { row := graphTheoremsRow, standIns := [], harness := (true, "328ae3ca5b324e077783517057b3ae1efef9cf409d3714fdb0b2ac3f1300c591"), looks := true }, kinds := [], alts := [], laidByText := true, laidKinds := [.data, .data, .data, .widerDeep], laidTests := true, laidLooks := .later }
def GraphTheoremsCardSaid : Prop := Claim7.holds Tryz.pinned (.plain (OpenSpec.ofChange graphTheoremsSpec)) graphTheoremsCard

/-- THE TIED CARD OF 'apodixislaw09.GraphKeeps'. -/
def graphKeepsCard : Claim7 := { stood := { row := graphKeepsRow, standIns := [], harness := (true, "328ae3ca5b324e077783517057b3ae1efef9cf409d3714fdb0b2ac3f1300c591"), looks := true }, kinds := [], alts := [], laidByText := true, laidKinds := [.data, .data, .data, .widerDeep], laidTests := true, laidLooks := .later }
def GraphKeepsCardSaid : Prop := Claim7.holds Tryz.pinned (.plain (OpenSpec.ofChange graphKeepsSpec)) graphKeepsCard

/-- THE SECOND FORM's CARD OF 'apodixislaw09.GraphProofs'. -/
def graphProofsUptoCard : Claim7 := { stood := { row := graphProofsUptoRow, standIns := [], harness := (true, "328ae3ca5b324e077783517057b3ae1efef9cf409d3714fdb0b2ac3f1300c591"), looks := true }, kinds := [], alts := [], laidByText := true, laidKinds := [.data, .data, .data, .widerDeep], laidTests := true, laidLooks := .later }
def GraphProofsUptoCardSaid : Prop := Claim7.holds Tryz.pinned (.plain (OpenSpec.upto graphProofsSpec)) graphProofsUptoCard

/-- THE SECOND FORM's CARD OF 'apodixislaw09.GraphTheorems'. -/
def graphTheoremsUptoCard : Claim7 := { stood := { row := graphTheoremsUptoRow, standIns := [], harness := (true, "328ae3ca5b324e077783517057b3ae1efef9cf409d3714fdb0b2ac3f1300c591"), looks := true }, kinds := [], alts := [], laidByText := true, laidKinds := [.data, .data, .data, .widerDeep], laidTests := true, laidLooks := .later }
def GraphTheoremsUptoCardSaid : Prop := Claim7.holds Tryz.pinned (.plain (OpenSpec.upto graphTheoremsSpec)) graphTheoremsUptoCard

/-- THE SECOND FORM's CARD OF 'apodixislaw09.GraphKeeps'. -/
def graphKeepsUptoCard : Claim7 := { stood := { row := graphKeepsUptoRow, standIns := [], harness := (true, "328ae3ca5b324e077783517057b3ae1efef9cf409d3714fdb0b2ac3f1300c591"), looks := true }, kinds := [], alts := [], laidByText := true, laidKinds := [.data, .data, .data, .widerDeep], laidTests := true, laidLooks := .later }
def GraphKeepsUptoCardSaid : Prop := Claim7.holds Tryz.pinned (.plain (OpenSpec.upto graphKeepsSpec)) graphKeepsUptoCard
end Rows
end Go.Proofs.YtaigaoflehfdcaaGreatDoor
