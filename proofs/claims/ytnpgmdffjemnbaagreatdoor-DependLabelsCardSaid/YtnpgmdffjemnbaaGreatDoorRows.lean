/-
  NARROWER THAN 'FOR EVERY INPUT', by the rows' own cells (each row's printed sentence says how): DependUses: laid · DependMust: laid · DependOrders: laid · DependChains: laid · DependLabels: laid.
  DERIVED. THE GIVEN ROWS OF THIS SEAT. 5 by the template 'for every input the law returns true; each argument reads behind the call as it read before'; 0 by the template 'total and deterministic' (their statements: YtnpgmdffjemnbaaGreatDoorTotals.lean).
  GIVEN WITH THE SEED: the statements are not yours to turn. If you find one false, say at which input.
  Laid BY PROGRAM, IN A SANDBOX (cutbox-rows.mjs): the forced cells as the released guide's own fill.sh prints them over the translation 3d4a8557f080079f… (all of the seat's roots in one cut). By AI agents, Wed Nov 11 2026. No macro, syntax, notation, axiom, sorry.
-/
import Derived.Test.YtnpgmdffjemnbaaGreatDoorChecked
import GoSem.Claim
import GoSem.ClaimJoined
import GoSem.ClaimMapViews
import Derived.JoinedTies
import Derived.KernelRfl
namespace Go.Proofs.YtnpgmdffjemnbaaGreatDoor
/- THE CELL 'sum', in the pinned program and in every row, IS THE sha256 OF THE DUMP (.gsa) THAT YtnpgmdffjemnbaaGreatDoorProg.lean LOADS. Nothing in Lean hashes anything: it is a label: what it is worth is what the hold of that sum in a sandbox is worth. -/
noncomputable def Tryz.pinned : Pinned := { name := "ytnpgmdffjemnbaagreatdoor", sum := "3d4a8557f080079f33bfb21f0678975115bdd68340b399dc413bed90f2cb6442", checked := Tryz.checked }
namespace Rows
def none {H : Type} : Left H := { results := [], args := [] }

/- WHAT THE LISTED PACKAGE-LEVEL VARIABLES READ AS WHEN THE CALL BEGINS. Each datum BY PROGRAM (the guide's laid-datum.mjs) off the statement by which the dump's own 'gosem.cut.vars' lays the variable. In a bare row this is a premise. The card (YtnpgmdffjemnbaaGreatDoorCards.lean) ties it to the program's text. -/
def laid_apodixis_layout_forms {H : Type} : DataW H := .agg [.agg [.lit (.string []), .lit (.bool false), .lit (.int .i64 0), .lit (.int .i64 0)], .agg [.lit (.string [36, 99]), .lit (.bool false), .lit (.int .i64 1), .lit (.int .i64 200)], .agg [.lit (.string [36, 118]), .lit (.bool false), .lit (.int .i64 1), .lit (.int .i64 200)], .agg [.lit (.string [36, 102]), .lit (.bool true), .lit (.int .i64 2), .lit (.int .i64 2)], .agg [.lit (.string [36, 101]), .lit (.bool true), .lit (.int .i64 1), .lit (.int .i64 200)], .agg [.lit (.string [36, 100]), .lit (.bool false), .lit (.int .i64 1), .lit (.int .i64 200)], .agg [.lit (.string [36, 97]), .lit (.bool true), .lit (.int .i64 1), .lit (.int .i64 200)], .agg [.lit (.string [36, 112]), .lit (.bool true), .lit (.int .i64 1), .lit (.int .i64 200)], .agg [.lit (.string [36, 123]), .lit (.bool false), .lit (.int .i64 0), .lit (.int .i64 0)], .agg [.lit (.string [36, 125]), .lit (.bool false), .lit (.int .i64 0), .lit (.int .i64 0)]]

/-- 'apodixislaw31.DependUses': WHATEVER THE INPUT: true; the input reads as it did. -/
def dependUsesSpec : ChangeSpec := { name := "dependUses", fn := fun _ => fun
  | [d1, d2] => { results := [.lit (.bool true)], args := [d1, d2] }
  | _ => none }
def dependUsesRow : OpenClaim := { program := "ytnpgmdffjemnbaagreatdoor", sum := "3d4a8557f080079f33bfb21f0678975115bdd68340b399dc413bed90f2cb6442", func := "apodixis/apodixislaw31.DependUses", spec := "dependUses", inPlace := ["internal/bytealg.abigen_runtime_cmpstring", "internal/bytealg.IndexByteString", "internal/bytealg.IndexString"], unfollowed := true, recurses := true, named := ["apodixis/layout.forms", "internal/bytealg.MaxLen"], apart := false, laid := [("apodixis/layout.forms", laid_apodixis_layout_forms)] }
def DependUsesSaid : Prop := dependUsesRow.holds Tryz.pinned (OpenSpec.ofChange dependUsesSpec)

/-- ITS FALSE NEIGHBOUR: 'it returns false'. Refute it at one input. -/
def dependUsesWrong : ChangeSpec := { name := "dependUses", fn := fun _ => fun
  | [d1, d2] => { results := [.lit (.bool false)], args := [d1, d2] }
  | _ => none }
def DependUsesWrongFalsely : Prop := dependUsesRow.holds Tryz.pinned (OpenSpec.ofChange dependUsesWrong)

/-- 'apodixislaw31.DependMust': WHATEVER THE INPUT: true; the input reads as it did. -/
def dependMustSpec : ChangeSpec := { name := "dependMust", fn := fun _ => fun
  | [d1, d2, d3] => { results := [.lit (.bool true)], args := [d1, d2, d3] }
  | _ => none }
def dependMustRow : OpenClaim := { program := "ytnpgmdffjemnbaagreatdoor", sum := "3d4a8557f080079f33bfb21f0678975115bdd68340b399dc413bed90f2cb6442", func := "apodixis/apodixislaw31.DependMust", spec := "dependMust", inPlace := ["internal/bytealg.abigen_runtime_cmpstring", "internal/bytealg.IndexByteString", "internal/bytealg.IndexString"], unfollowed := true, recurses := true, named := ["apodixis/layout.forms", "internal/bytealg.MaxLen"], apart := false, laid := [("apodixis/layout.forms", laid_apodixis_layout_forms)] }
def DependMustSaid : Prop := dependMustRow.holds Tryz.pinned (OpenSpec.ofChange dependMustSpec)

/-- ITS FALSE NEIGHBOUR: 'it returns false'. Refute it at one input. -/
def dependMustWrong : ChangeSpec := { name := "dependMust", fn := fun _ => fun
  | [d1, d2, d3] => { results := [.lit (.bool false)], args := [d1, d2, d3] }
  | _ => none }
def DependMustWrongFalsely : Prop := dependMustRow.holds Tryz.pinned (OpenSpec.ofChange dependMustWrong)

/-- 'apodixislaw31.DependOrders': WHATEVER THE INPUT: true; the input reads as it did. -/
def dependOrdersSpec : ChangeSpec := { name := "dependOrders", fn := fun _ => fun
  | [d1, d2] => { results := [.lit (.bool true)], args := [d1, d2] }
  | _ => none }
def dependOrdersRow : OpenClaim := { program := "ytnpgmdffjemnbaagreatdoor", sum := "3d4a8557f080079f33bfb21f0678975115bdd68340b399dc413bed90f2cb6442", func := "apodixis/apodixislaw31.DependOrders", spec := "dependOrders", inPlace := ["internal/bytealg.abigen_runtime_cmpstring", "internal/bytealg.IndexByteString", "internal/bytealg.IndexString"], unfollowed := true, recurses := true, named := ["apodixis/layout.forms", "internal/bytealg.MaxLen"], apart := false, laid := [("apodixis/layout.forms", laid_apodixis_layout_forms)] }
def DependOrdersSaid : Prop := dependOrdersRow.holds Tryz.pinned (OpenSpec.ofChange dependOrdersSpec)

/-- ITS FALSE NEIGHBOUR: 'it returns false'. Refute it at one input. -/
def dependOrdersWrong : ChangeSpec := { name := "dependOrders", fn := fun _ => fun
  | [d1, d2] => { results := [.lit (.bool false)], args := [d1, d2] }
  | _ => none }
def DependOrdersWrongFalsely : Prop := dependOrdersRow.holds Tryz.pinned (OpenSpec.ofChange dependOrdersWrong)

/-- 'apodixislaw31.DependChains': WHATEVER THE INPUT: true; the input reads as it did. -/
def dependChainsSpec : ChangeSpec := { name := "dependChains", fn := fun _ => fun
  | [d1, d2, d3] => { results := [.lit (.bool true)], args := [d1, d2, d3] }
  | _ => none }
def dependChainsRow : OpenClaim := { program := "ytnpgmdffjemnbaagreatdoor", sum := "3d4a8557f080079f33bfb21f0678975115bdd68340b399dc413bed90f2cb6442", func := "apodixis/apodixislaw31.DependChains", spec := "dependChains", inPlace := ["internal/bytealg.abigen_runtime_cmpstring", "internal/bytealg.IndexByteString", "internal/bytealg.IndexString"], unfollowed := true, recurses := true, named := ["apodixis/layout.forms", "internal/bytealg.MaxLen"], apart := false, laid := [("apodixis/layout.forms", laid_apodixis_layout_forms)] }
def DependChainsSaid : Prop := dependChainsRow.holds Tryz.pinned (OpenSpec.ofChange dependChainsSpec)

/-- ITS FALSE NEIGHBOUR: 'it returns false'. Refute it at one input. -/
def dependChainsWrong : ChangeSpec := { name := "dependChains", fn := fun _ => fun
  | [d1, d2, d3] => { results := [.lit (.bool false)], args := [d1, d2, d3] }
  | _ => none }
def DependChainsWrongFalsely : Prop := dependChainsRow.holds Tryz.pinned (OpenSpec.ofChange dependChainsWrong)

/-- 'apodixislaw31.DependLabels': WHATEVER THE INPUT: true; the input reads as it did. -/
def dependLabelsSpec : ChangeSpec := { name := "dependLabels", fn := fun _ => fun
  | [d1, d2, d3] => { results := [.lit (.bool true)], args := [d1, d2, d3] }
  | _ => none }
def dependLabelsRow : OpenClaim := { program := "ytnpgmdffjemnbaagreatdoor", sum := "3d4a8557f080079f33bfb21f0678975115bdd68340b399dc413bed90f2cb6442", func := "apodixis/apodixislaw31.DependLabels", spec := "dependLabels", inPlace := ["internal/bytealg.abigen_runtime_cmpstring", "internal/bytealg.IndexByteString", "internal/bytealg.IndexString"], unfollowed := true, recurses := true, named := ["apodixis/layout.forms", "internal/bytealg.MaxLen"], apart := false, laid := [("apodixis/layout.forms", laid_apodixis_layout_forms)] }
def DependLabelsSaid : Prop := dependLabelsRow.holds Tryz.pinned (OpenSpec.ofChange dependLabelsSpec)

/-- ITS FALSE NEIGHBOUR: 'it returns false'. Refute it at one input. -/
def dependLabelsWrong : ChangeSpec := { name := "dependLabels", fn := fun _ => fun
  | [d1, d2, d3] => { results := [.lit (.bool false)], args := [d1, d2, d3] }
  | _ => none }
def DependLabelsWrongFalsely : Prop := dependLabelsRow.holds Tryz.pinned (OpenSpec.ofChange dependLabelsWrong)

/- THE SECOND FORM. 'bulk': how many values and letters a reading holds, each counted each time it is reached (what is shared counts as often as it is met; a slice's spare places count too). A statement '..UptoSaid' is the law's where the arguments, and the package variables that the reading takes, are together of bulk at most 1048576: NARROWER than '..Said'. Prove '..Said' where nothing that the law and all that it calls make is longer than what came in: it says more and counts as full. Else prove '..UptoSaid'. A law counts once. -/
mutual
def uptoBulk {H : Type} : DataW H → Nat
  | .lit (.string bytes) => bytes.length + 1
  | .lit _ => 1
  | .nil => 1
  | .ptr d => uptoBulk d + 1
  | .slice elems spare => uptoBulkAll elems + uptoBulkAll spare + 1
  | .agg parts => uptoBulkAll parts + 1
  | .iface _ d => uptoBulk d + 1
  | .map entries => uptoBulkEntries entries + 1
  | .held _ => 1
def uptoBulkAll {H : Type} : List (DataW H) → Nat
  | [] => 0
  | d :: r => uptoBulk d + uptoBulkAll r
def uptoBulkEntries {H : Type} : List (Lit × DataW H) → Nat
  | [] => 0
  | x :: r => uptoBulkEntry x + uptoBulkEntries r
def uptoBulkEntry {H : Type} : Lit × DataW H → Nat
  | (.string bytes, d) => bytes.length + uptoBulk d + 1
  | (_, d) => uptoBulk d + 1
 end
def uptoSmall : (H : Type) → List (DataW H) → Bool := fun _ ds => decide (uptoBulkAll ds ≤ 1048576)
def OpenSpec.upto (s : _root_.Go.ChangeSpec) : _root_.Go.OpenSpec := { _root_.Go.OpenSpec.ofChange s with cond := some uptoSmall }

/-- 'apodixislaw31.DependUses', WHERE WHAT IT READS IS OF BULK AT MOST 1048576: true; the input reads as it did. -/
def dependUsesUptoRow : OpenClaim := { program := "ytnpgmdffjemnbaagreatdoor", sum := "3d4a8557f080079f33bfb21f0678975115bdd68340b399dc413bed90f2cb6442", func := "apodixis/apodixislaw31.DependUses", spec := "dependUses", inPlace := ["internal/bytealg.abigen_runtime_cmpstring", "internal/bytealg.IndexByteString", "internal/bytealg.IndexString"], unfollowed := true, recurses := true, named := ["apodixis/layout.forms", "internal/bytealg.MaxLen"], apart := false, laid := [("apodixis/layout.forms", laid_apodixis_layout_forms)], narrowed := true }
def DependUsesUptoSaid : Prop := dependUsesUptoRow.holds Tryz.pinned (OpenSpec.upto dependUsesSpec)

/-- 'apodixislaw31.DependMust', WHERE WHAT IT READS IS OF BULK AT MOST 1048576: true; the input reads as it did. -/
def dependMustUptoRow : OpenClaim := { program := "ytnpgmdffjemnbaagreatdoor", sum := "3d4a8557f080079f33bfb21f0678975115bdd68340b399dc413bed90f2cb6442", func := "apodixis/apodixislaw31.DependMust", spec := "dependMust", inPlace := ["internal/bytealg.abigen_runtime_cmpstring", "internal/bytealg.IndexByteString", "internal/bytealg.IndexString"], unfollowed := true, recurses := true, named := ["apodixis/layout.forms", "internal/bytealg.MaxLen"], apart := false, laid := [("apodixis/layout.forms", laid_apodixis_layout_forms)], narrowed := true }
def DependMustUptoSaid : Prop := dependMustUptoRow.holds Tryz.pinned (OpenSpec.upto dependMustSpec)

/-- 'apodixislaw31.DependOrders', WHERE WHAT IT READS IS OF BULK AT MOST 1048576: true; the input reads as it did. -/
def dependOrdersUptoRow : OpenClaim := { program := "ytnpgmdffjemnbaagreatdoor", sum := "3d4a8557f080079f33bfb21f0678975115bdd68340b399dc413bed90f2cb6442", func := "apodixis/apodixislaw31.DependOrders", spec := "dependOrders", inPlace := ["internal/bytealg.abigen_runtime_cmpstring", "internal/bytealg.IndexByteString", "internal/bytealg.IndexString"], unfollowed := true, recurses := true, named := ["apodixis/layout.forms", "internal/bytealg.MaxLen"], apart := false, laid := [("apodixis/layout.forms", laid_apodixis_layout_forms)], narrowed := true }
def DependOrdersUptoSaid : Prop := dependOrdersUptoRow.holds Tryz.pinned (OpenSpec.upto dependOrdersSpec)

/-- 'apodixislaw31.DependChains', WHERE WHAT IT READS IS OF BULK AT MOST 1048576: true; the input reads as it did. -/
def dependChainsUptoRow : OpenClaim := { program := "ytnpgmdffjemnbaagreatdoor", sum := "3d4a8557f080079f33bfb21f0678975115bdd68340b399dc413bed90f2cb6442", func := "apodixis/apodixislaw31.DependChains", spec := "dependChains", inPlace := ["internal/bytealg.abigen_runtime_cmpstring", "internal/bytealg.IndexByteString", "internal/bytealg.IndexString"], unfollowed := true, recurses := true, named := ["apodixis/layout.forms", "internal/bytealg.MaxLen"], apart := false, laid := [("apodixis/layout.forms", laid_apodixis_layout_forms)], narrowed := true }
def DependChainsUptoSaid : Prop := dependChainsUptoRow.holds Tryz.pinned (OpenSpec.upto dependChainsSpec)

/-- 'apodixislaw31.DependLabels', WHERE WHAT IT READS IS OF BULK AT MOST 1048576: true; the input reads as it did. -/
def dependLabelsUptoRow : OpenClaim := { program := "ytnpgmdffjemnbaagreatdoor", sum := "3d4a8557f080079f33bfb21f0678975115bdd68340b399dc413bed90f2cb6442", func := "apodixis/apodixislaw31.DependLabels", spec := "dependLabels", inPlace := ["internal/bytealg.abigen_runtime_cmpstring", "internal/bytealg.IndexByteString", "internal/bytealg.IndexString"], unfollowed := true, recurses := true, named := ["apodixis/layout.forms", "internal/bytealg.MaxLen"], apart := false, laid := [("apodixis/layout.forms", laid_apodixis_layout_forms)], narrowed := true }
def DependLabelsUptoSaid : Prop := dependLabelsUptoRow.holds Tryz.pinned (OpenSpec.upto dependLabelsSpec)

end Rows
end Go.Proofs.YtnpgmdffjemnbaaGreatDoor
