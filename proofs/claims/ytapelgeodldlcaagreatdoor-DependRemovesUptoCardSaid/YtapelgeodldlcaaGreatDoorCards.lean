/-
  DERIVED. GIVEN WITH THE SEED: THE CARDS: each row of YtapelgeodldlcaaGreatDoorRows.lean that lists a variable, with what it lists TIED to the program's text (the seventh form; the later family's looks); each row that meets fmt, with fmt's text TOLD by the authors' own Lean function (tested against real Go, not proved from fmt's source: count such statements apart). THE CARD IS WHAT COUNTS. Prove the row's statement (the work); the ties are given (YtapelgeodldlcaaGreatDoorTie.lean); close each card by the builder's one call (the guide's Derived/Test/ToyasCard.lean, 'card_holds'). Laid BY PROGRAM, IN A SANDBOX (cutbox-door.mjs). By AI agents, Wed Nov 11 2026. No macro, syntax, notation, axiom, sorry.
-/
import Derived.Test.YtapelgeodldlcaaGreatDoorRows
import GoSem.ClaimSeven
namespace Go.Proofs.YtapelgeodldlcaaGreatDoor
namespace Rows

/-- THE TIED CARD OF 'apodixislaw31.DependRemoves'. -/
def dependRemovesCard : Claim7 := { stood := { row := dependRemovesRow, standIns := [], harness := (true, "e5f5422b9365b4a72ece72efdcaddb702026d5f0e37a90897e410540bdcd0ca1"), looks := true }, kinds := [], alts := [], laidByText := true, laidKinds := [.widerDeep], laidTests := true, laidLooks := .later }
def DependRemovesCardSaid : Prop := Claim7.holds Tryz.pinned (.plain (OpenSpec.ofChange dependRemovesSpec)) dependRemovesCard

/-- THE SECOND FORM's CARD OF 'apodixislaw31.DependRemoves'. -/
def dependRemovesUptoCard : Claim7 := { stood := { row := dependRemovesUptoRow, standIns := [], harness := (true, "e5f5422b9365b4a72ece72efdcaddb702026d5f0e37a90897e410540bdcd0ca1"), looks := true }, kinds := [], alts := [], laidByText := true, laidKinds := [.widerDeep], laidTests := true, laidLooks := .later }
def DependRemovesUptoCardSaid : Prop := Claim7.holds Tryz.pinned (.plain (OpenSpec.upto dependRemovesSpec)) dependRemovesUptoCard
end Rows
end Go.Proofs.YtapelgeodldlcaaGreatDoor
