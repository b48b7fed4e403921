/-
  DERIVED. GIVEN WITH THE SEED: THE CARDS: each row of YtnpgmdffjemnbaaGreatDoorRows.lean that lists a variable, with what it lists TIED to the program's text (the seventh form; the later family's looks); each row that meets fmt, with fmt's text TOLD by the authors' own Lean function (tested against real Go, not proved from fmt's source: count such statements apart). THE CARD IS WHAT COUNTS. Prove the row's statement (the work); the ties are given (YtnpgmdffjemnbaaGreatDoorTie.lean); close each card by the builder's one call (the guide's Derived/Test/ToyasCard.lean, 'card_holds'). Laid BY PROGRAM, IN A SANDBOX (cutbox-door.mjs). By AI agents, Wed Nov 11 2026. No macro, syntax, notation, axiom, sorry.
-/
import Derived.Test.YtnpgmdffjemnbaaGreatDoorRows
import GoSem.ClaimSeven
namespace Go.Proofs.YtnpgmdffjemnbaaGreatDoor
namespace Rows

/-- THE TIED CARD OF 'apodixislaw31.DependUses'. -/
def dependUsesCard : Claim7 := { stood := { row := dependUsesRow, standIns := [], harness := (true, "0a605733c8d12f355ba50b60c85083be83d4b83189e4da8f3799097162fefd06"), looks := false }, kinds := [], alts := [], laidByText := true, laidKinds := [.widerDeep], laidTests := true, laidLooks := .later }
def DependUsesCardSaid : Prop := Claim7.holds Tryz.pinned (.plain (OpenSpec.ofChange dependUsesSpec)) dependUsesCard

/-- THE TIED CARD OF 'apodixislaw31.DependMust'. -/
def dependMustCard : Claim7 := { stood := { row := dependMustRow, standIns := [], harness := (true, "0a605733c8d12f355ba50b60c85083be83d4b83189e4da8f3799097162fefd06"), looks := false }, kinds := [], alts := [], laidByText := true, laidKinds := [.widerDeep], laidTests := true, laidLooks := .later }
def DependMustCardSaid : Prop := Claim7.holds Tryz.pinned (.plain (OpenSpec.ofChange dependMustSpec)) dependMustCard

/-- THE TIED CARD OF 'apodixislaw31.DependOrders'. -/
def dependOrdersCard : Claim7 := { stood := { row := dependOrdersRow, standIns := [], harness := (true, "0a605733c8d12f355ba50b60c85083be83d4b83189e4da8f3799097162fefd06"), looks := false }, kinds := [], alts := [], laidByText := true, laidKinds := [.widerDeep], laidTests := true, laidLooks := .later }
def DependOrdersCardSaid : Prop := Claim7.holds Tryz.pinned (.plain (OpenSpec.ofChange dependOrdersSpec)) dependOrdersCard

/-- THE TIED CARD OF 'apodixislaw31.DependChains'. -/
def dependChainsCard : Claim7 := { stood := { row := dependChainsRow, standIns := [], harness := (true, "0a605733c8d12f355ba50b60c85083be83d4b83189e4da8f3799097162fefd06"), looks := false }, kinds := [], alts := [], laidByText := true, laidKinds := [.widerDeep], laidTests := true, laidLooks := .later }
def DependChainsCardSaid : Prop := Claim7.holds Tryz.pinned (.plain (OpenSpec.ofChange dependChainsSpec)) dependChainsCard

/-- THE TIED CARD OF 'apodixislaw31.DependLabels'. -/
def dependLabelsCard : Claim7 := { stood := { row := dependLabelsRow, standIns := [], harness := (true, "0a605733c8d12f355ba50b60c85083be83d4b83189e4da8f3799097162fefd06"), looks := false }, kinds := [], alts := [], laidByText := true, laidKinds := [.widerDeep], laidTests := true, laidLooks := .later }
def DependLabelsCardSaid : Prop := Claim7.holds Tryz.pinned (.plain (OpenSpec.ofChange dependLabelsSpec)) dependLabelsCard

/-- THE SECOND FORM's CARD OF 'apodixislaw31.DependUses'. -/
def dependUsesUptoCard : Claim7 := { stood := { row := dependUsesUptoRow, standIns := [], harness := (true, "0a605733c8d12f355ba50b60c85083be83d4b83189e4da8f3799097162fefd06"), looks := false }, kinds := [], alts := [], laidByText := true, laidKinds := [.widerDeep], laidTests := true, laidLooks := .later }
def DependUsesUptoCardSaid : Prop := Claim7.holds Tryz.pinned (.plain (OpenSpec.upto dependUsesSpec)) dependUsesUptoCard

/-- THE SECOND FORM's CARD OF 'apodixislaw31.DependMust'. -/
def dependMustUptoCard : Claim7 := { stood := { row := dependMustUptoRow, standIns := [], harness := (true, "0a605733c8d12f355ba50b60c85083be83d4b83189e4da8f3799097162fefd06"), looks := false }, kinds := [], alts := [], laidByText := true, laidKinds := [.widerDeep], laidTests := true, laidLooks := .later }
def DependMustUptoCardSaid : Prop := Claim7.holds Tryz.pinned (.plain (OpenSpec.upto dependMustSpec)) dependMustUptoCard

/-- THE SECOND FORM's CARD OF 'apodixislaw31.DependOrders'. -/
def dependOrdersUptoCard : Claim7 := { stood := { row := dependOrdersUptoRow, standIns := [], harness := (true, "0a605733c8d12f355ba50b60c85083be83d4b83189e4da8f3799097162fefd06"), looks := false }, kinds := [], alts := [], laidByText := true, laidKinds := [.widerDeep], laidTests := true, laidLooks := .later }
def DependOrdersUptoCardSaid : Prop := Claim7.holds Tryz.pinned (.plain (OpenSpec.upto dependOrdersSpec)) dependOrdersUptoCard

/-- THE SECOND FORM's CARD OF 'apodixislaw31.DependChains'. -/
def dependChainsUptoCard : Claim7 := { stood := { row := dependChainsUptoRow, standIns := [], harness := (true, "0a605733c8d12f355ba50b60c85083be83d4b83189e4da8f3799097162fefd06"), looks := false }, kinds := [], alts := [], laidByText := true, laidKinds := [.widerDeep], laidTests := true, laidLooks := .later }
def DependChainsUptoCardSaid : Prop := Claim7.holds Tryz.pinned (.plain (OpenSpec.upto dependChainsSpec)) dependChainsUptoCard

/-- THE SECOND FORM's CARD OF 'apodixislaw31.DependLabels'. -/
def dependLabelsUptoCard : Claim7 := { stood := { row := dependLabelsUptoRow, standIns := [], harness := (true, "0a605733c8d12f355ba50b60c85083be83d4b83189e4da8f3799097162fefd06"), looks := false }, kinds := [], alts := [], laidByText := true, laidKinds := [.widerDeep], laidTests := true, laidLooks := .later }
def DependLabelsUptoCardSaid : Prop := Claim7.holds Tryz.pinned (.plain (OpenSpec.upto dependLabelsSpec)) dependLabelsUptoCard
end Rows
end Go.Proofs.YtnpgmdffjemnbaaGreatDoor
