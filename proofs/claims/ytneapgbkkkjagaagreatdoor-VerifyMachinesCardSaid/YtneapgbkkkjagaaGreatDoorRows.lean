/-
  NARROWER THAN 'FOR EVERY INPUT', by the rows' own cells (each row's printed sentence says how): VerifyProofs: laid · VerifyTheorems: laid · VerifyMachines: laid.
  DERIVED. THE GIVEN ROWS OF THIS SEAT. 3 by the template 'for every input the law returns true; each argument reads behind the call as it read before'; 0 by the template 'total and deterministic' (their statements: YtneapgbkkkjagaaGreatDoorTotals.lean).
  GIVEN WITH THE SEED: the statements are not yours to turn. If you find one false, say at which input.
  Laid BY PROGRAM, IN A SANDBOX (cutbox-rows.mjs): the forced cells as the released guide's own fill.sh prints them over the translation add5eea2a4d0f5a3… (all of the seat's roots in one cut). By AI agents, Wed Nov 11 2026. No macro, syntax, notation, axiom, sorry.
-/
import Derived.Test.YtneapgbkkkjagaaGreatDoorChecked
import GoSem.Claim
import GoSem.ClaimJoined
import GoSem.ClaimMapViews
import Derived.JoinedTies
import Derived.KernelRfl
namespace Go.Proofs.YtneapgbkkkjagaaGreatDoor
/- THE CELL 'sum', in the pinned program and in every row, IS THE sha256 OF THE DUMP (.gsa) THAT YtneapgbkkkjagaaGreatDoorProg.lean LOADS. Nothing in Lean hashes anything: it is a label: what it is worth is what the hold of that sum in a sandbox is worth. -/
noncomputable def Tryz.pinned : Pinned := { name := "ytneapgbkkkjagaagreatdoor", sum := "add5eea2a4d0f5a39602c5bb3bfba03e1560cc6a8faf47642495526be80bdd7f", checked := Tryz.checked }
namespace Rows
def none {H : Type} : Left H := { results := [], args := [] }

/- WHAT THE LISTED PACKAGE-LEVEL VARIABLES READ AS WHEN THE CALL BEGINS. Each datum BY PROGRAM (the guide's laid-datum.mjs) off the statement by which the dump's own 'gosem.cut.vars' lays the variable. In a bare row this is a premise. The card (YtneapgbkkkjagaaGreatDoorCards.lean) ties it to the program's text. -/
def laid_apodixis_layout_forms {H : Type} : DataW H := .agg [.agg [.lit (.string []), .lit (.bool false), .lit (.int .i64 0), .lit (.int .i64 0)], .agg [.lit (.string [36, 99]), .lit (.bool false), .lit (.int .i64 1), .lit (.int .i64 200)], .agg [.lit (.string [36, 118]), .lit (.bool false), .lit (.int .i64 1), .lit (.int .i64 200)], .agg [.lit (.string [36, 102]), .lit (.bool true), .lit (.int .i64 2), .lit (.int .i64 2)], .agg [.lit (.string [36, 101]), .lit (.bool true), .lit (.int .i64 1), .lit (.int .i64 200)], .agg [.lit (.string [36, 100]), .lit (.bool false), .lit (.int .i64 1), .lit (.int .i64 200)], .agg [.lit (.string [36, 97]), .lit (.bool true), .lit (.int .i64 1), .lit (.int .i64 200)], .agg [.lit (.string [36, 112]), .lit (.bool true), .lit (.int .i64 1), .lit (.int .i64 200)], .agg [.lit (.string [36, 123]), .lit (.bool false), .lit (.int .i64 0), .lit (.int .i64 0)], .agg [.lit (.string [36, 125]), .lit (.bool false), .lit (.int .i64 0), .lit (.int .i64 0)]]

/-- 'apodixislaw07.VerifyProofs': WHATEVER THE INPUT: true; the input reads as it did. -/
def verifyProofsSpec : ChangeSpec := { name := "verifyProofs", fn := fun _ => fun
  | [d1, d2, d3] => { results := [.lit (.bool true)], args := [d1, d2, d3] }
  | _ => none }
def verifyProofsRow : OpenClaim := { program := "ytneapgbkkkjagaagreatdoor", sum := "add5eea2a4d0f5a39602c5bb3bfba03e1560cc6a8faf47642495526be80bdd7f", func := "apodixis/apodixislaw07.VerifyProofs", spec := "verifyProofs", inPlace := ["internal/bytealg.abigen_runtime_cmpstring", "internal/bytealg.IndexByteString", "internal/bytealg.IndexString", "internal/abi.NoEscape", "internal/bytealg.MakeNoZero"], unfollowed := true, recurses := true, named := ["apodixis/layout.forms", "internal/bytealg.MaxLen"], apart := false, laid := [("apodixis/layout.forms", laid_apodixis_layout_forms)] }
def VerifyProofsSaid : Prop := verifyProofsRow.holds Tryz.pinned (OpenSpec.ofChange verifyProofsSpec)

/-- ITS FALSE NEIGHBOUR: 'it returns false'. Refute it at one input. -/
def verifyProofsWrong : ChangeSpec := { name := "verifyProofs", fn := fun _ => fun
  | [d1, d2, d3] => { results := [.lit (.bool false)], args := [d1, d2, d3] }
  | _ => none }
def VerifyProofsWrongFalsely : Prop := verifyProofsRow.holds Tryz.pinned (OpenSpec.ofChange verifyProofsWrong)

/-- 'apodixislaw07.VerifyTheorems': WHATEVER THE INPUT: true; the input reads as it did. -/
def verifyTheoremsSpec : ChangeSpec := { name := "verifyTheorems", fn := fun _ => fun
  | [d1, d2] => { results := [.lit (.bool true)], args := [d1, d2] }
  | _ => none }
def verifyTheoremsRow : OpenClaim := { program := "ytneapgbkkkjagaagreatdoor", sum := "add5eea2a4d0f5a39602c5bb3bfba03e1560cc6a8faf47642495526be80bdd7f", func := "apodixis/apodixislaw07.VerifyTheorems", spec := "verifyTheorems", inPlace := ["internal/bytealg.abigen_runtime_cmpstring", "internal/bytealg.IndexByteString", "internal/bytealg.IndexString", "internal/abi.NoEscape", "internal/bytealg.MakeNoZero"], unfollowed := true, recurses := true, named := ["apodixis/layout.forms", "internal/bytealg.MaxLen"], apart := false, laid := [("apodixis/layout.forms", laid_apodixis_layout_forms)] }
def VerifyTheoremsSaid : Prop := verifyTheoremsRow.holds Tryz.pinned (OpenSpec.ofChange verifyTheoremsSpec)

/-- ITS FALSE NEIGHBOUR: 'it returns false'. Refute it at one input. -/
def verifyTheoremsWrong : ChangeSpec := { name := "verifyTheorems", fn := fun _ => fun
  | [d1, d2] => { results := [.lit (.bool false)], args := [d1, d2] }
  | _ => none }
def VerifyTheoremsWrongFalsely : Prop := verifyTheoremsRow.holds Tryz.pinned (OpenSpec.ofChange verifyTheoremsWrong)

/-- 'apodixislaw07.VerifyMachines': WHATEVER THE INPUT: true; the input reads as it did. -/
def verifyMachinesSpec : ChangeSpec := { name := "verifyMachines", fn := fun _ => fun
  | [d1, d2, d3, d4] => { results := [.lit (.bool true)], args := [d1, d2, d3, d4] }
  | _ => none }
def verifyMachinesRow : OpenClaim := { program := "ytneapgbkkkjagaagreatdoor", sum := "add5eea2a4d0f5a39602c5bb3bfba03e1560cc6a8faf47642495526be80bdd7f", func := "apodixis/apodixislaw07.VerifyMachines", spec := "verifyMachines", inPlace := ["internal/bytealg.abigen_runtime_cmpstring", "internal/bytealg.IndexByteString", "internal/bytealg.IndexString", "internal/abi.NoEscape", "internal/bytealg.MakeNoZero"], unfollowed := true, recurses := true, named := ["apodixis/layout.forms", "internal/bytealg.MaxLen"], apart := false, laid := [("apodixis/layout.forms", laid_apodixis_layout_forms)] }
def VerifyMachinesSaid : Prop := verifyMachinesRow.holds Tryz.pinned (OpenSpec.ofChange verifyMachinesSpec)

/-- ITS FALSE NEIGHBOUR: 'it returns false'. Refute it at one input. -/
def verifyMachinesWrong : ChangeSpec := { name := "verifyMachines", fn := fun _ => fun
  | [d1, d2, d3, d4] => { results := [.lit (.bool false)], args := [d1, d2, d3, d4] }
  | _ => none }
def VerifyMachinesWrongFalsely : Prop := verifyMachinesRow.holds Tryz.pinned (OpenSpec.ofChange verifyMachinesWrong)

/- THE SECOND FORM. 'bulk': how many values and letters a reading holds, each counted each time it is reached (what is shared counts as often as it is met; a slice's spare places count too). A statement '..UptoSaid' is the law's where the arguments, and the package variables that the reading takes, are together of bulk at most 1048576: NARROWER than '..Said'. Prove '..Said' where nothing that the law and all that it calls make is longer than what came in: it says more and counts as full. Else prove '..UptoSaid'. A law counts once. -/
mutual
def uptoBulk {H : Type} : DataW H → Nat
  | .lit (.string bytes) => bytes.length + 1
  | .lit _ => 1
  | .nil => 1
  | .ptr d => uptoBulk d + 1
  | .slice elems spare => uptoBulkAll elems + uptoBulkAll spare + 1
  | .agg parts => uptoBulkAll parts + 1
  | .iface _ d => uptoBulk d + 1
  | .map entries => uptoBulkEntries entries + 1
  | .held _ => 1
def uptoBulkAll {H : Type} : List (DataW H) → Nat
  | [] => 0
  | d :: r => uptoBulk d + uptoBulkAll r
def uptoBulkEntries {H : Type} : List (Lit × DataW H) → Nat
  | [] => 0
  | x :: r => uptoBulkEntry x + uptoBulkEntries r
def uptoBulkEntry {H : Type} : Lit × DataW H → Nat
  | (.string bytes, d) => bytes.length + uptoBulk d + 1
  | (_, d) => uptoBulk d + 1
 end
def uptoSmall : (H : Type) → List (DataW H) → Bool := fun _ ds => decide (uptoBulkAll ds ≤ 1048576)
def OpenSpec.upto (s : _root_.Go.ChangeSpec) : _root_.Go.OpenSpec := { _root_.Go.OpenSpec.ofChange s with cond := some uptoSmall }

/-- 'apodixislaw07.VerifyProofs', WHERE WHAT IT READS IS OF BULK AT MOST 1048576: true; the input reads as it did. -/
def verifyProofsUptoRow : OpenClaim := { program := "ytneapgbkkkjagaagreatdoor", sum := "add5eea2a4d0f5a39602c5bb3bfba03e1560cc6a8faf47642495526be80bdd7f", func := "apodixis/apodixislaw07.VerifyProofs", spec := "verifyProofs", inPlace := ["internal/bytealg.abigen_runtime_cmpstring", "internal/bytealg.IndexByteString", "internal/bytealg.IndexString", "internal/abi.NoEscape", "internal/bytealg.MakeNoZero"], unfollowed := true, recurses := true, named := ["apodixis/layout.forms", "internal/bytealg.MaxLen"], apart := false, laid := [("apodixis/layout.forms", laid_apodixis_layout_forms)], narrowed := true }
def VerifyProofsUptoSaid : Prop := verifyProofsUptoRow.holds Tryz.pinned (OpenSpec.upto verifyProofsSpec)

/-- 'apodixislaw07.VerifyTheorems', WHERE WHAT IT READS IS OF BULK AT MOST 1048576: true; the input reads as it did. -/
def verifyTheoremsUptoRow : OpenClaim := { program := "ytneapgbkkkjagaagreatdoor", sum := "add5eea2a4d0f5a39602c5bb3bfba03e1560cc6a8faf47642495526be80bdd7f", func := "apodixis/apodixislaw07.VerifyTheorems", spec := "verifyTheorems", inPlace := ["internal/bytealg.abigen_runtime_cmpstring", "internal/bytealg.IndexByteString", "internal/bytealg.IndexString", "internal/abi.NoEscape", "internal/bytealg.MakeNoZero"], unfollowed := true, recurses := true, named := ["apodixis/layout.forms", "internal/bytealg.MaxLen"], apart := false, laid := [("apodixis/layout.forms", laid_apodixis_layout_forms)], narrowed := true }
def VerifyTheoremsUptoSaid : Prop := verifyTheoremsUptoRow.holds Tryz.pinned (OpenSpec.upto verifyTheoremsSpec)

/-- 'apodixislaw07.VerifyMachines', WHERE WHAT IT READS IS OF BULK AT MOST 1048576: true; the input reads as it did. -/
def verifyMachinesUptoRow : OpenClaim := { program := "ytneapgbkkkjagaagreatdoor", sum := "add5eea2a4d0f5a39602c5bb3bfba03e1560cc6a8faf47642495526be80bdd7f", func := "apodixis/apodixislaw07.VerifyMachines", spec := "verifyMachines", inPlace := ["internal/bytealg.abigen_runtime_cmpstring", "internal/bytealg.IndexByteString", "internal/bytealg.IndexString", "internal/abi.NoEscape", "internal/bytealg.MakeNoZero"], unfollowed := true, recurses := true, named := ["apodixis/layout.forms", "internal/bytealg.MaxLen"], apart := false, laid := [("apodixis/layout.forms", laid_apodixis_layout_forms)], narrowed := true }
def VerifyMachinesUptoSaid : Prop := verifyMachinesUptoRow.holds Tryz.pinned (OpenSpec.upto verifyMachinesSpec)

end Rows
end Go.Proofs.YtneapgbkkkjagaaGreatDoor
