/-
  NARROWER THAN 'FOR EVERY INPUT', by the rows' own cells (each row's printed sentence says how): MinimizeApplies: laid · MinimizeDone: laid · MinimizeChecks: laid · MinimizeChanges: laid · MinimizeShorter: laid.
  DERIVED. THE GIVEN ROWS OF THIS SEAT. 5 by the template 'for every input the law returns true; each argument reads behind the call as it read before'; 0 by the template 'total and deterministic' (their statements: YtdfadihhfppjaaaGreatDoorTotals.lean).
  GIVEN WITH THE SEED: the statements are not yours to turn. If you find one false, say at which input.
  Laid BY PROGRAM, IN A SANDBOX (cutbox-rows.mjs): the forced cells as the released guide's own fill.sh prints them over the translation 24132b28e588aee2… (all of the seat's roots in one cut). By AI agents, Wed Nov 11 2026. No macro, syntax, notation, axiom, sorry.
-/
import Derived.Test.YtdfadihhfppjaaaGreatDoorChecked
import GoSem.Claim
import GoSem.ClaimJoined
import GoSem.ClaimMapViews
import Derived.JoinedTies
import Derived.KernelRfl
namespace Go.Proofs.YtdfadihhfppjaaaGreatDoor
/- THE CELL 'sum', in the pinned program and in every row, IS THE sha256 OF THE DUMP (.gsa) THAT YtdfadihhfppjaaaGreatDoorProg.lean LOADS. Nothing in Lean hashes anything: it is a label: what it is worth is what the hold of that sum in a sandbox is worth. -/
noncomputable def Tryz.pinned : Pinned := { name := "ytdfadihhfppjaaagreatdoor", sum := "24132b28e588aee20791f9f1d815d24ff22e1d5b1a96573671ae59cd23c3ff30", checked := Tryz.checked }
namespace Rows
def none {H : Type} : Left H := { results := [], args := [] }

/- WHAT THE LISTED PACKAGE-LEVEL VARIABLES READ AS WHEN THE CALL BEGINS. Each datum BY PROGRAM (the guide's laid-datum.mjs) off the statement by which the dump's own 'gosem.cut.vars' lays the variable. In a bare row this is a premise. The card (YtdfadihhfppjaaaGreatDoorCards.lean) ties it to the program's text. -/
def laid_apodixis_layout_forms {H : Type} : DataW H := .agg [.agg [.lit (.string []), .lit (.bool false), .lit (.int .i64 0), .lit (.int .i64 0)], .agg [.lit (.string [36, 99]), .lit (.bool false), .lit (.int .i64 1), .lit (.int .i64 200)], .agg [.lit (.string [36, 118]), .lit (.bool false), .lit (.int .i64 1), .lit (.int .i64 200)], .agg [.lit (.string [36, 102]), .lit (.bool true), .lit (.int .i64 2), .lit (.int .i64 2)], .agg [.lit (.string [36, 101]), .lit (.bool true), .lit (.int .i64 1), .lit (.int .i64 200)], .agg [.lit (.string [36, 100]), .lit (.bool false), .lit (.int .i64 1), .lit (.int .i64 200)], .agg [.lit (.string [36, 97]), .lit (.bool true), .lit (.int .i64 1), .lit (.int .i64 200)], .agg [.lit (.string [36, 112]), .lit (.bool true), .lit (.int .i64 1), .lit (.int .i64 200)], .agg [.lit (.string [36, 123]), .lit (.bool false), .lit (.int .i64 0), .lit (.int .i64 0)], .agg [.lit (.string [36, 125]), .lit (.bool false), .lit (.int .i64 0), .lit (.int .i64 0)]]

/-- 'apodixislaw24.MinimizeApplies': WHATEVER THE INPUT: true; the input reads as it did. -/
def minimizeAppliesSpec : ChangeSpec := { name := "minimizeApplies", fn := fun _ => fun
  | [d1, d2, d3, d4] => { results := [.lit (.bool true)], args := [d1, d2, d3, d4] }
  | _ => none }
def minimizeAppliesRow : OpenClaim := { program := "ytdfadihhfppjaaagreatdoor", sum := "24132b28e588aee20791f9f1d815d24ff22e1d5b1a96573671ae59cd23c3ff30", func := "apodixis/apodixislaw24.MinimizeApplies", spec := "minimizeApplies", inPlace := ["internal/bytealg.abigen_runtime_cmpstring", "internal/bytealg.IndexByteString", "internal/bytealg.IndexString", "internal/abi.NoEscape", "internal/bytealg.MakeNoZero"], unfollowed := true, recurses := true, named := ["apodixis/layout.forms", "internal/bytealg.MaxLen"], apart := false, laid := [("apodixis/layout.forms", laid_apodixis_layout_forms)] }
def MinimizeAppliesSaid : Prop := minimizeAppliesRow.holds Tryz.pinned (OpenSpec.ofChange minimizeAppliesSpec)

/-- ITS FALSE NEIGHBOUR: 'it returns false'. Refute it at one input. -/
def minimizeAppliesWrong : ChangeSpec := { name := "minimizeApplies", fn := fun _ => fun
  | [d1, d2, d3, d4] => { results := [.lit (.bool false)], args := [d1, d2, d3, d4] }
  | _ => none }
def MinimizeAppliesWrongFalsely : Prop := minimizeAppliesRow.holds Tryz.pinned (OpenSpec.ofChange minimizeAppliesWrong)

/-- 'apodixislaw24.MinimizeDone': WHATEVER THE INPUT: true; the input reads as it did. -/
def minimizeDoneSpec : ChangeSpec := { name := "minimizeDone", fn := fun _ => fun
  | [d1, d2, d3] => { results := [.lit (.bool true)], args := [d1, d2, d3] }
  | _ => none }
def minimizeDoneRow : OpenClaim := { program := "ytdfadihhfppjaaagreatdoor", sum := "24132b28e588aee20791f9f1d815d24ff22e1d5b1a96573671ae59cd23c3ff30", func := "apodixis/apodixislaw24.MinimizeDone", spec := "minimizeDone", inPlace := ["internal/bytealg.abigen_runtime_cmpstring", "internal/bytealg.IndexByteString", "internal/bytealg.IndexString", "internal/abi.NoEscape", "internal/bytealg.MakeNoZero"], unfollowed := true, recurses := true, named := ["apodixis/layout.forms", "internal/bytealg.MaxLen"], apart := false, laid := [("apodixis/layout.forms", laid_apodixis_layout_forms)] }
def MinimizeDoneSaid : Prop := minimizeDoneRow.holds Tryz.pinned (OpenSpec.ofChange minimizeDoneSpec)

/-- ITS FALSE NEIGHBOUR: 'it returns false'. Refute it at one input. -/
def minimizeDoneWrong : ChangeSpec := { name := "minimizeDone", fn := fun _ => fun
  | [d1, d2, d3] => { results := [.lit (.bool false)], args := [d1, d2, d3] }
  | _ => none }
def MinimizeDoneWrongFalsely : Prop := minimizeDoneRow.holds Tryz.pinned (OpenSpec.ofChange minimizeDoneWrong)

/-- 'apodixislaw24.MinimizeChecks': WHATEVER THE INPUT: true; the input reads as it did. -/
def minimizeChecksSpec : ChangeSpec := { name := "minimizeChecks", fn := fun _ => fun
  | [d1, d2, d3, d4, d5] => { results := [.lit (.bool true)], args := [d1, d2, d3, d4, d5] }
  | _ => none }
def minimizeChecksRow : OpenClaim := { program := "ytdfadihhfppjaaagreatdoor", sum := "24132b28e588aee20791f9f1d815d24ff22e1d5b1a96573671ae59cd23c3ff30", func := "apodixis/apodixislaw24.MinimizeChecks", spec := "minimizeChecks", inPlace := ["internal/bytealg.abigen_runtime_cmpstring", "internal/bytealg.IndexByteString", "internal/bytealg.IndexString", "internal/abi.NoEscape", "internal/bytealg.MakeNoZero"], unfollowed := true, recurses := true, named := ["apodixis/layout.forms", "internal/bytealg.MaxLen"], apart := false, laid := [("apodixis/layout.forms", laid_apodixis_layout_forms)] }
def MinimizeChecksSaid : Prop := minimizeChecksRow.holds Tryz.pinned (OpenSpec.ofChange minimizeChecksSpec)

/-- ITS FALSE NEIGHBOUR: 'it returns false'. Refute it at one input. -/
def minimizeChecksWrong : ChangeSpec := { name := "minimizeChecks", fn := fun _ => fun
  | [d1, d2, d3, d4, d5] => { results := [.lit (.bool false)], args := [d1, d2, d3, d4, d5] }
  | _ => none }
def MinimizeChecksWrongFalsely : Prop := minimizeChecksRow.holds Tryz.pinned (OpenSpec.ofChange minimizeChecksWrong)

/-- 'apodixislaw24.MinimizeChanges': WHATEVER THE INPUT: true; the input reads as it did. -/
def minimizeChangesSpec : ChangeSpec := { name := "minimizeChanges", fn := fun _ => fun
  | [d1, d2, d3, d4] => { results := [.lit (.bool true)], args := [d1, d2, d3, d4] }
  | _ => none }
def minimizeChangesRow : OpenClaim := { program := "ytdfadihhfppjaaagreatdoor", sum := "24132b28e588aee20791f9f1d815d24ff22e1d5b1a96573671ae59cd23c3ff30", func := "apodixis/apodixislaw24.MinimizeChanges", spec := "minimizeChanges", inPlace := ["internal/bytealg.abigen_runtime_cmpstring", "internal/bytealg.IndexByteString", "internal/bytealg.IndexString", "internal/abi.NoEscape", "internal/bytealg.MakeNoZero"], unfollowed := true, recurses := true, named := ["apodixis/layout.forms", "internal/bytealg.MaxLen"], apart := false, laid := [("apodixis/layout.forms", laid_apodixis_layout_forms)] }
def MinimizeChangesSaid : Prop := minimizeChangesRow.holds Tryz.pinned (OpenSpec.ofChange minimizeChangesSpec)

/-- ITS FALSE NEIGHBOUR: 'it returns false'. Refute it at one input. -/
def minimizeChangesWrong : ChangeSpec := { name := "minimizeChanges", fn := fun _ => fun
  | [d1, d2, d3, d4] => { results := [.lit (.bool false)], args := [d1, d2, d3, d4] }
  | _ => none }
def MinimizeChangesWrongFalsely : Prop := minimizeChangesRow.holds Tryz.pinned (OpenSpec.ofChange minimizeChangesWrong)

/-- 'apodixislaw24.MinimizeShorter': WHATEVER THE INPUT: true; the input reads as it did. -/
def minimizeShorterSpec : ChangeSpec := { name := "minimizeShorter", fn := fun _ => fun
  | [d1, d2, d3, d4] => { results := [.lit (.bool true)], args := [d1, d2, d3, d4] }
  | _ => none }
def minimizeShorterRow : OpenClaim := { program := "ytdfadihhfppjaaagreatdoor", sum := "24132b28e588aee20791f9f1d815d24ff22e1d5b1a96573671ae59cd23c3ff30", func := "apodixis/apodixislaw24.MinimizeShorter", spec := "minimizeShorter", inPlace := ["internal/bytealg.abigen_runtime_cmpstring", "internal/bytealg.IndexByteString", "internal/bytealg.IndexString", "internal/abi.NoEscape", "internal/bytealg.MakeNoZero"], unfollowed := true, recurses := true, named := ["apodixis/layout.forms", "internal/bytealg.MaxLen"], apart := false, laid := [("apodixis/layout.forms", laid_apodixis_layout_forms)] }
def MinimizeShorterSaid : Prop := minimizeShorterRow.holds Tryz.pinned (OpenSpec.ofChange minimizeShorterSpec)

/-- ITS FALSE NEIGHBOUR: 'it returns false'. Refute it at one input. -/
def minimizeShorterWrong : ChangeSpec := { name := "minimizeShorter", fn := fun _ => fun
  | [d1, d2, d3, d4] => { results := [.lit (.bool false)], args := [d1, d2, d3, d4] }
  | _ => none }
def MinimizeShorterWrongFalsely : Prop := minimizeShorterRow.holds Tryz.pinned (OpenSpec.ofChange minimizeShorterWrong)

/- THE SECOND FORM. 'bulk': how many values and letters a reading holds, each counted each time it is reached (what is shared counts as often as it is met; a slice's spare places count too). A statement '..UptoSaid' is the law's where the arguments, and the package variables that the reading takes, are together of bulk at most 1048576: NARROWER than '..Said'. Prove '..Said' where nothing that the law and all that it calls make is longer than what came in: it says more and counts as full. Else prove '..UptoSaid'. A law counts once. -/
mutual
def uptoBulk {H : Type} : DataW H → Nat
  | .lit (.string bytes) => bytes.length + 1
  | .lit _ => 1
  | .nil => 1
  | .ptr d => uptoBulk d + 1
  | .slice elems spare => uptoBulkAll elems + uptoBulkAll spare + 1
  | .agg parts => uptoBulkAll parts + 1
  | .iface _ d => uptoBulk d + 1
  | .map entries => uptoBulkEntries entries + 1
  | .held _ => 1
def uptoBulkAll {H : Type} : List (DataW H) → Nat
  | [] => 0
  | d :: r => uptoBulk d + uptoBulkAll r
def uptoBulkEntries {H : Type} : List (Lit × DataW H) → Nat
  | [] => 0
  | x :: r => uptoBulkEntry x + uptoBulkEntries r
def uptoBulkEntry {H : Type} : Lit × DataW H → Nat
  | (.string bytes, d) => bytes.length + uptoBulk d + 1
  | (_, d) => uptoBulk d + 1
 end
def uptoSmall : (H : Type) → List (DataW H) → Bool := fun _ ds => decide (uptoBulkAll ds ≤ 1048576)
def OpenSpec.upto (s : _root_.Go.ChangeSpec) : _root_.Go.OpenSpec := { _root_.Go.OpenSpec.ofChange s with cond := some uptoSmall }

/-- 'apodixislaw24.MinimizeApplies', WHERE WHAT IT READS IS OF BULK AT MOST 1048576: true; the input reads as it did. -/
def minimizeAppliesUptoRow : OpenClaim := { program := "ytdfadihhfppjaaagreatdoor", sum := "24132b28e588aee20791f9f1d815d24ff22e1d5b1a96573671ae59cd23c3ff30", func := "apodixis/apodixislaw24.MinimizeApplies", spec := "minimizeApplies", inPlace := ["internal/bytealg.abigen_runtime_cmpstring", "internal/bytealg.IndexByteString", "internal/bytealg.IndexString", "internal/abi.NoEscape", "internal/bytealg.MakeNoZero"], unfollowed := true, recurses := true, named := ["apodixis/layout.forms", "internal/bytealg.MaxLen"], apart := false, laid := [("apodixis/layout.forms", laid_apodixis_layout_forms)], narrowed := true }
def MinimizeAppliesUptoSaid : Prop := minimizeAppliesUptoRow.holds Tryz.pinned (OpenSpec.upto minimizeAppliesSpec)

/-- 'apodixislaw24.MinimizeDone', WHERE WHAT IT READS IS OF BULK AT MOST 1048576: true; the input reads as it did. -/
def minimizeDoneUptoRow : OpenClaim := { program := "ytdfadihhfppjaaagreatdoor", sum := "24132b28e588aee20791f9f1d815d24ff22e1d5b1a96573671ae59cd23c3ff30", func := "apodixis/apodixislaw24.MinimizeDone", spec := "minimizeDone", inPlace := ["internal/bytealg.abigen_runtime_cmpstring", "internal/bytealg.IndexByteString", "internal/bytealg.IndexString", "internal/abi.NoEscape", "internal/bytealg.MakeNoZero"], unfollowed := true, recurses := true, named := ["apodixis/layout.forms", "internal/bytealg.MaxLen"], apart := false, laid := [("apodixis/layout.forms", laid_apodixis_layout_forms)], narrowed := true }
def MinimizeDoneUptoSaid : Prop := minimizeDoneUptoRow.holds Tryz.pinned (OpenSpec.upto minimizeDoneSpec)

/-- 'apodixislaw24.MinimizeChecks', WHERE WHAT IT READS IS OF BULK AT MOST 1048576: true; the input reads as it did. -/
def minimizeChecksUptoRow : OpenClaim := { program := "ytdfadihhfppjaaagreatdoor", sum := "24132b28e588aee20791f9f1d815d24ff22e1d5b1a96573671ae59cd23c3ff30", func := "apodixis/apodixislaw24.MinimizeChecks", spec := "minimizeChecks", inPlace := ["internal/bytealg.abigen_runtime_cmpstring", "internal/bytealg.IndexByteString", "internal/bytealg.IndexString", "internal/abi.NoEscape", "internal/bytealg.MakeNoZero"], unfollowed := true, recurses := true, named := ["apodixis/layout.forms", "internal/bytealg.MaxLen"], apart := false, laid := [("apodixis/layout.forms", laid_apodixis_layout_forms)], narrowed := true }
def MinimizeChecksUptoSaid : Prop := minimizeChecksUptoRow.holds Tryz.pinned (OpenSpec.upto minimizeChecksSpec)

/-- 'apodixislaw24.MinimizeChanges', WHERE WHAT IT READS IS OF BULK AT MOST 1048576: true; the input reads as it did. -/
def minimizeChangesUptoRow : OpenClaim := { program := "ytdfadihhfppjaaagreatdoor", sum := "24132b28e588aee20791f9f1d815d24ff22e1d5b1a96573671ae59cd23c3ff30", func := "apodixis/apodixislaw24.MinimizeChanges", spec := "minimizeChanges", inPlace := ["internal/bytealg.abigen_runtime_cmpstring", "internal/bytealg.IndexByteString", "internal/bytealg.IndexString", "internal/abi.NoEscape", "internal/bytealg.MakeNoZero"], unfollowed := true, recurses := true, named := ["apodixis/layout.forms", "internal/bytealg.MaxLen"], apart := false, laid := [("apodixis/layout.forms", laid_apodixis_layout_forms)], narrowed := true }
def MinimizeChangesUptoSaid : Prop := minimizeChangesUptoRow.holds Tryz.pinned (OpenSpec.upto minimizeChangesSpec)

/-- 'apodixislaw24.MinimizeShorter', WHERE WHAT IT READS IS OF BULK AT MOST 1048576: true; the input reads as it did. -/
def minimizeShorterUptoRow : OpenClaim := { program := "ytdfadihhfppjaaagreatdoor", sum := "24132b28e588aee20791f9f1d815d24ff22e1d5b1a96573671ae59cd23c3ff30", func := "apodixis/apodixislaw24.MinimizeShorter", spec := "minimizeShorter", inPlace := ["internal/bytealg.abigen_runtime_cmpstring", "internal/bytealg.IndexByteString", "internal/bytealg.IndexString", "internal/abi.NoEscape", "internal/bytealg.MakeNoZero"], unfollowed := true, recurses := true, named := ["apodixis/layout.forms", "internal/bytealg.MaxLen"], apart := false, laid := [("apodixis/layout.forms", laid_apodixis_layout_forms)], narrowed := true }
def MinimizeShorterUptoSaid : Prop := minimizeShorterUptoRow.holds Tryz.pinned (OpenSpec.upto minimizeShorterSpec)

end Rows
end Go.Proofs.YtdfadihhfppjaaaGreatDoor
