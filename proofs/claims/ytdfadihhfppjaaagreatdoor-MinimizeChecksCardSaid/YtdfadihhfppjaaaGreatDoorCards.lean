/-
  DERIVED. GIVEN WITH THE SEED: THE CARDS: each row of YtdfadihhfppjaaaGreatDoorRows.lean that lists a variable, with what it lists TIED to the program's text (the seventh form; the later family's looks); each row that meets fmt, with fmt's text TOLD by the authors' own Lean function (tested against real Go, not proved from fmt's source: count such statements apart). THE CARD IS WHAT COUNTS. Prove the row's statement (the work); the ties are given (YtdfadihhfppjaaaGreatDoorTie.lean); close each card by the builder's one call (the guide's Derived/Test/ToyasCard.lean, 'card_holds'). Laid BY PROGRAM, IN A SANDBOX (cutbox-door.mjs). By AI agents, Wed Nov 11 2026. No macro, syntax, notation, axiom, sorry.
-/
import Derived.Test.YtdfadihhfppjaaaGreatDoorRows
import GoSem.ClaimSeven
namespace Go.Proofs.YtdfadihhfppjaaaGreatDoor
namespace Rows

/-- THE TIED CARD OF 'apodixislaw24.MinimizeApplies'. -/
def minimizeAppliesCard : Claim7 := { stood := { row := minimizeAppliesRow, standIns := [], harness := (true, "df750d5928689d15b8f008d857ac14fb4417e79eaada66362958aa68531076c8"), looks := false }, kinds := [], alts := [], laidByText := true, laidKinds := [.widerDeep], laidTests := true, laidLooks := .later }
def MinimizeAppliesCardSaid : Prop := Claim7.holds Tryz.pinned (.plain (OpenSpec.ofChange minimizeAppliesSpec)) minimizeAppliesCard

/-- THE TIED CARD OF 'apodixislaw24.MinimizeDone'. -/
def minimizeDoneCard : Claim7 := { stood := { row := minimizeDoneRow, standIns := [], harness := (true, "df750d5928689d15b8f008d857ac14fb4417e79eaada66362958aa68531076c8"), looks := false }, kinds := [], alts := [], laidByText := true, laidKinds := [.widerDeep], laidTests := true, laidLooks := .later }
def MinimizeDoneCardSaid : Prop := Claim7.holds Tryz.pinned (.plain (OpenSpec.ofChange minimizeDoneSpec)) minimizeDoneCard

/-- THE TIED CARD OF 'apodixislaw24.MinimizeChecks'. -/
def minimizeChecksCard : Claim7 := { stood := { row := minimizeChecksRow, standIns := [], harness := (true, "df750d5928689d15b8f008d857ac14fb4417e79eaada66362958aa68531076c8"), looks := false }, kinds := [], alts := [], laidByText := true, laidKinds := [.widerDeep], laidTests := true, laidLooks := .later }
def MinimizeChecksCardSaid : Prop := Claim7.holds Tryz.pinned (.plain (OpenSpec.ofChange minimizeChecksSpec)) minimizeChecksCard

/-- THE TIED CARD OF 'apodixislaw24.MinimizeChanges'. -/
def minimizeChangesCard : Claim7 := { stood := { row := minimizeChangesRow, standIns := [], harness := (true, "df750d5928689d15b8f008d857ac14fb4417e79eaada66362958aa68531076c8"), looks := false }, kinds := [], alts := [], laidByText := true, laidKinds := [.widerDeep], laidTests := true, laidLooks := .later }
def MinimizeChangesCardSaid : Prop := Claim7.holds Tryz.pinned (.plain (OpenSpec.ofChange minimizeChangesSpec)) minimizeChangesCard

/-- THE TIED CARD OF 'apodixislaw24.MinimizeShorter'. -/
def minimizeShorterCard : Claim7 := { stood := { row := minimizeShorterRow, standIns := [], harness := (true, "df750d5928689d15b8f008d857ac14fb4417e79eaada66362958aa68531076c8"), looks := false }, kinds := [], alts := [], laidByText := true, laidKinds := [.widerDeep], laidTests := true, laidLooks := .later }
def MinimizeShorterCardSaid : Prop := Claim7.holds Tryz.pinned (.plain (OpenSpec.ofChange minimizeShorterSpec)) minimizeShorterCard

/-- THE SECOND FORM's CARD OF 'apodixislaw24.MinimizeApplies'. -/
def minimizeAppliesUptoCard : Claim7 := { stood := { row := minimizeAppliesUptoRow, standIns := [], harness := (true, "df750d5928689d15b8f008d857ac14fb4417e79eaada66362958aa68531076c8"), looks := false }, kinds := [], alts := [], laidByText := true, laidKinds := [.widerDeep], laidTests := true, laidLooks := .later }
def MinimizeAppliesUptoCardSaid : Prop := Claim7.holds Tryz.pinned (.plain (OpenSpec.upto minimizeAppliesSpec)) minimizeAppliesUptoCard

/-- THE SECOND FORM's CARD OF 'apodixislaw24.MinimizeDone'. -/
def minimizeDoneUptoCard : Claim7 := { stood := { row := minimizeDoneUptoRow, standIns := [], harness := (true, "df750d5928689d15b8f008d857ac14fb4417e79eaada66362958aa68531076c8"), looks := false }, kinds := [], alts := [], laidByText := true, laidKinds := [.widerDeep], laidTests := true, laidLooks := .later }
def MinimizeDoneUptoCardSaid : Prop := Claim7.holds Tryz.pinned (.plain (OpenSpec.upto minimizeDoneSpec)) minimizeDoneUptoCard

/-- THE SECOND FORM's CARD OF 'apodixislaw24.MinimizeChecks'. -/
def minimizeChecksUptoCard : Claim7 := { stood := { row := minimizeChecksUptoRow, standIns := [], harness := (true, "df750d5928689d15b8f008d857ac14fb4417e79eaada66362958aa68531076c8"), looks := false }, kinds := [], alts := [], laidByText := true, laidKinds := [.widerDeep], laidTests := true, laidLooks := .later }
def MinimizeChecksUptoCardSaid : Prop := Claim7.holds Tryz.pinned (.plain (OpenSpec.upto minimizeChecksSpec)) minimizeChecksUptoCard

/-- THE SECOND FORM's CARD OF 'apodixislaw24.MinimizeChanges'. -/
def minimizeChangesUptoCard : Claim7 := { stood := { row := minimizeChangesUptoRow, standIns := [], harness := (true, "df750d5928689d15b8f008d857ac14fb4417e79eaada66362958aa68531076c8"), looks := false }, kinds := [], alts := [], laidByText := true, laidKinds := [.widerDeep], laidTests := true, laidLooks := .later }
def MinimizeChangesUptoCardSaid : Prop := Claim7.holds Tryz.pinned (.plain (OpenSpec.upto minimizeChangesSpec)) minimizeChangesUptoCard

/-- THE SECOND FORM's CARD OF 'apodixislaw24.MinimizeShorter'. -/
def minimizeShorterUptoCard : Claim7 := { stood := { row := minimizeShorterUptoRow, standIns := [], harness := (true, "df750d5928689d15b8f008d857ac14fb4417e79eaada66362958aa68531076c8"), looks := false }, kinds := [], alts := [], laidByText := true, laidKinds := [.widerDeep], laidTests := true, laidLooks := .later }
def MinimizeShorterUptoCardSaid : Prop := Claim7.holds Tryz.pinned (.plain (OpenSpec.upto minimizeShorterSpec)) minimizeShorterUptoCard
end Rows
end Go.Proofs.YtdfadihhfppjaaaGreatDoor
