/-
  DERIVED. GIVEN WITH THE SEED: THE CARDS: each row of YtcbmljfgmeeadaaDoorRows.lean that lists a variable, with what it lists TIED to the program's text (the seventh form; the later family's looks); each row that meets fmt, with fmt's text TOLD by the authors' own Lean function (tested against real Go, not proved from fmt's source: count such statements apart). THE CARD IS WHAT COUNTS. Prove the row's statement (the work); the ties are given (YtcbmljfgmeeadaaDoorTie.lean); close each card by the builder's one call (the guide's Derived/Test/ToyasCard.lean, 'card_holds'). Laid BY PROGRAM, IN A SANDBOX (cutbox-door.mjs). By AI agents, Wed Nov 11 2026. No macro, syntax, notation, axiom, sorry.
-/
import Derived.Test.YtcbmljfgmeeadaaDoorRows
import GoSem.ClaimSeven
namespace Go.Proofs.YtcbmljfgmeeadaaDoor
namespace Rows

/-- THE TIED CARD OF 'apodixislaw09.GraphTrees'. -/
def graphTreesCard : Claim7 := { stood := { row := graphTreesRow, standIns := [], harness := (true, "408b1863979270dd4ec11c0b7628319c06816fa3c20e7a46b8546e94fbff5e45"), looks := false }, kinds := [], alts := [], laidByText := true, laidKinds := [.data, .data, .data], laidTests := true, laidLooks := .later }
def GraphTreesCardSaid : Prop := Claim7.holds Tryd.pinned (.plain (OpenSpec.ofChange graphTreesSpec)) graphTreesCard

/-- THE TIED CARD OF 'apodixislaw09.GraphGrafts'. -/
def graphGraftsCard : Claim7 := { stood := { row := graphGraftsRow, standIns := [], harness := (true, "408b1863979270dd4ec11c0b7628319c06816fa3c20e7a46b8546e94fbff5e45"), looks := false }, kinds := [], alts := [], laidByText := true, laidKinds := [.data, .data, .data], laidTests := true, laidLooks := .later }
def GraphGraftsCardSaid : Prop := Claim7.holds Tryd.pinned (.plain (OpenSpec.ofChange graphGraftsSpec)) graphGraftsCard

/-- THE TIED CARD OF 'apodixislaw09.GraphForms'. -/
def graphFormsCard : Claim7 := { stood := { row := graphFormsRow, standIns := [], harness := (true, "408b1863979270dd4ec11c0b7628319c06816fa3c20e7a46b8546e94fbff5e45"), looks := false }, kinds := [], alts := [], laidByText := true, laidKinds := [.data, .data, .data], laidTests := true, laidLooks := .later }
def GraphFormsCardSaid : Prop := Claim7.holds Tryd.pinned (.plain (OpenSpec.ofChange graphFormsSpec)) graphFormsCard

/-- THE SECOND FORM's CARD OF 'apodixislaw09.GraphTrees'. -/
def graphTreesUptoCard : Claim7 := { stood := { row := graphTreesUptoRow, standIns := [], harness := (true, "408b1863979270dd4ec11c0b7628319c06816fa3c20e7a46b8546e94fbff5e45"), looks := false }, kinds := [], alts := [], laidByText := true, laidKinds := [.data, .data, .data], laidTests := true, laidLooks := .later }
def GraphTreesUptoCardSaid : Prop := Claim7.holds Tryd.pinned (.plain (OpenSpec.upto graphTreesSpec)) graphTreesUptoCard

/-- THE SECOND FORM's CARD OF 'apodixislaw09.GraphGrafts'. -/
def graphGraftsUptoCard : Claim7 := { stood := { row := graphGraftsUptoRow, standIns := [], harness := (true, "408b1863979270dd4ec11c0b7628319c06816fa3c20e7a46b8546e94fbff5e45"), looks := false }, kinds := [], alts := [], laidByText := true, laidKinds := [.data, .data, .data], laidTests := true, laidLooks := .later }
def GraphGraftsUptoCardSaid : Prop := Claim7.holds Tryd.pinned (.plain (OpenSpec.upto graphGraftsSpec)) graphGraftsUptoCard

/-- THE SECOND FORM's CARD OF 'apodixislaw09.GraphForms'. -/
def graphFormsUptoCard : Claim7 := { stood := { row := graphFormsUptoRow, standIns := [], harness := (true, "408b1863979270dd4ec11c0b7628319c06816fa3c20e7a46b8546e94fbff5e45"), looks := false }, kinds := [], alts := [], laidByText := true, laidKinds := [.data, .data, .data], laidTests := true, laidLooks := .later }
def GraphFormsUptoCardSaid : Prop := Claim7.holds Tryd.pinned (.plain (OpenSpec.upto graphFormsSpec)) graphFormsUptoCard
end Rows
end Go.Proofs.YtcbmljfgmeeadaaDoor
