/-
  NARROWER THAN 'FOR EVERY INPUT', by the rows' own cells (each row's printed sentence says how): PlanOrders: laid · PlanChooses: laid · PlanChecks: laid.
  DERIVED. THE GIVEN ROWS OF THIS SEAT. 3 by the template 'for every input the law returns true; each argument reads behind the call as it read before'; 0 by the template 'total and deterministic' (their statements: YtihdlalbgdighaaDoorTotals.lean).
  GIVEN WITH THE SEED: the statements are not yours to turn. If you find one false, say at which input.
  Laid BY PROGRAM, IN A SANDBOX (cutbox-rows.mjs): the forced cells as the released guide's own fill.sh prints them over the translation ca3f0a1b60ea9b6e… (all of the seat's roots in one cut). By AI agents, Wed Nov 11 2026. No macro, syntax, notation, axiom, sorry.
-/
import Derived.Test.YtihdlalbgdighaaDoorChecked
import GoSem.Claim
import GoSem.ClaimJoined
import GoSem.ClaimMapViews
import Derived.JoinedTies
import Derived.KernelRfl
namespace Go.Proofs.YtihdlalbgdighaaDoor
/- THE CELL 'sum', in the pinned program and in every row, IS THE sha256 OF THE DUMP (.gsa) THAT YtihdlalbgdighaaDoorProg.lean LOADS. Nothing in Lean hashes anything: it is a label: what it is worth is what the hold of that sum in a sandbox is worth. -/
noncomputable def Tryd.pinned : Pinned := { name := "ytihdlalbgdighaadoor", sum := "ca3f0a1b60ea9b6e726285096d6504901fc0621570f7a3a8a40d17ba8b620bb5", checked := Tryd.checked }
namespace Rows
def none {H : Type} : Left H := { results := [], args := [] }

/- WHAT THE LISTED PACKAGE-LEVEL VARIABLES READ AS WHEN THE CALL BEGINS. Each datum BY PROGRAM (the guide's laid-datum.mjs) off the statement by which the dump's own 'gosem.cut.vars' lays the variable. In a bare row this is a premise. The card (YtihdlalbgdighaaDoorCards.lean) ties it to the program's text. -/
def laid_hayloft_expr_orders {H : Type} : DataW H := .agg [.agg [.lit (.bool false), .lit (.bool true), .lit (.bool false)], .agg [.lit (.bool true), .lit (.bool false), .lit (.bool true)], .agg [.lit (.bool true), .lit (.bool false), .lit (.bool false)], .agg [.lit (.bool true), .lit (.bool true), .lit (.bool false)], .agg [.lit (.bool false), .lit (.bool false), .lit (.bool true)], .agg [.lit (.bool false), .lit (.bool true), .lit (.bool true)]]

/-- 'hayloftlaw16.PlanOrders': WHATEVER THE INPUT: true; the input reads as it did. -/
def planOrdersSpec : ChangeSpec := { name := "planOrders", fn := fun _ => fun
  | [d1, d2, d3] => { results := [.lit (.bool true)], args := [d1, d2, d3] }
  | _ => none }
def planOrdersRow : OpenClaim := { program := "ytihdlalbgdighaadoor", sum := "ca3f0a1b60ea9b6e726285096d6504901fc0621570f7a3a8a40d17ba8b620bb5", func := "hayloft/hayloftlaw16.PlanOrders", spec := "planOrders", inPlace := ["internal/bytealg.abigen_runtime_cmpstring", "slices.overlaps[hayloft/exec.group]"], unfollowed := true, recurses := true, named := ["hayloft/expr.orders"], apart := false, laid := [("hayloft/expr.orders", laid_hayloft_expr_orders)] }
def PlanOrdersSaid : Prop := planOrdersRow.holds Tryd.pinned (OpenSpec.ofChange planOrdersSpec)

/-- ITS FALSE NEIGHBOUR: 'it returns false'. Refute it at one input. -/
def planOrdersWrong : ChangeSpec := { name := "planOrders", fn := fun _ => fun
  | [d1, d2, d3] => { results := [.lit (.bool false)], args := [d1, d2, d3] }
  | _ => none }
def PlanOrdersWrongFalsely : Prop := planOrdersRow.holds Tryd.pinned (OpenSpec.ofChange planOrdersWrong)

/-- 'hayloftlaw16.PlanChooses': WHATEVER THE INPUT: true; the input reads as it did. -/
def planChoosesSpec : ChangeSpec := { name := "planChooses", fn := fun _ => fun
  | [d1, d2, d3] => { results := [.lit (.bool true)], args := [d1, d2, d3] }
  | _ => none }
def planChoosesRow : OpenClaim := { program := "ytihdlalbgdighaadoor", sum := "ca3f0a1b60ea9b6e726285096d6504901fc0621570f7a3a8a40d17ba8b620bb5", func := "hayloft/hayloftlaw16.PlanChooses", spec := "planChooses", inPlace := ["internal/bytealg.abigen_runtime_cmpstring", "slices.overlaps[hayloft/exec.group]"], unfollowed := true, recurses := true, named := ["hayloft/expr.orders"], apart := false, laid := [("hayloft/expr.orders", laid_hayloft_expr_orders)] }
def PlanChoosesSaid : Prop := planChoosesRow.holds Tryd.pinned (OpenSpec.ofChange planChoosesSpec)

/-- ITS FALSE NEIGHBOUR: 'it returns false'. Refute it at one input. -/
def planChoosesWrong : ChangeSpec := { name := "planChooses", fn := fun _ => fun
  | [d1, d2, d3] => { results := [.lit (.bool false)], args := [d1, d2, d3] }
  | _ => none }
def PlanChoosesWrongFalsely : Prop := planChoosesRow.holds Tryd.pinned (OpenSpec.ofChange planChoosesWrong)

/-- 'hayloftlaw16.PlanChecks': WHATEVER THE INPUT: true; the input reads as it did. -/
def planChecksSpec : ChangeSpec := { name := "planChecks", fn := fun _ => fun
  | [d1, d2] => { results := [.lit (.bool true)], args := [d1, d2] }
  | _ => none }
def planChecksRow : OpenClaim := { program := "ytihdlalbgdighaadoor", sum := "ca3f0a1b60ea9b6e726285096d6504901fc0621570f7a3a8a40d17ba8b620bb5", func := "hayloft/hayloftlaw16.PlanChecks", spec := "planChecks", inPlace := ["internal/bytealg.abigen_runtime_cmpstring", "slices.overlaps[hayloft/exec.group]"], unfollowed := true, recurses := true, named := ["hayloft/expr.orders"], apart := false, laid := [("hayloft/expr.orders", laid_hayloft_expr_orders)] }
def PlanChecksSaid : Prop := planChecksRow.holds Tryd.pinned (OpenSpec.ofChange planChecksSpec)

/-- ITS FALSE NEIGHBOUR: 'it returns false'. Refute it at one input. -/
def planChecksWrong : ChangeSpec := { name := "planChecks", fn := fun _ => fun
  | [d1, d2] => { results := [.lit (.bool false)], args := [d1, d2] }
  | _ => none }
def PlanChecksWrongFalsely : Prop := planChecksRow.holds Tryd.pinned (OpenSpec.ofChange planChecksWrong)

/- THE SECOND FORM. 'bulk': how many values and letters a reading holds, each counted each time it is reached (what is shared counts as often as it is met; a slice's spare places count too). A statement '..UptoSaid' is the law's where the arguments, and the package variables that the reading takes, are together of bulk at most 1048576: NARROWER than '..Said'. Prove '..Said' where nothing that the law and all that it calls make is longer than what came in: it says more and counts as full. Else prove '..UptoSaid'. A law counts once. -/
mutual
def uptoBulk {H : Type} : DataW H → Nat
  | .lit (.string bytes) => bytes.length + 1
  | .lit _ => 1
  | .nil => 1
  | .ptr d => uptoBulk d + 1
  | .slice elems spare => uptoBulkAll elems + uptoBulkAll spare + 1
  | .agg parts => uptoBulkAll parts + 1
  | .iface _ d => uptoBulk d + 1
  | .map entries => uptoBulkEntries entries + 1
  | .held _ => 1
def uptoBulkAll {H : Type} : List (DataW H) → Nat
  | [] => 0
  | d :: r => uptoBulk d + uptoBulkAll r
def uptoBulkEntries {H : Type} : List (Lit × DataW H) → Nat
  | [] => 0
  | x :: r => uptoBulkEntry x + uptoBulkEntries r
def uptoBulkEntry {H : Type} : Lit × DataW H → Nat
  | (.string bytes, d) => bytes.length + uptoBulk d + 1
  | (_, d) => uptoBulk d + 1
 end
def uptoSmall : (H : Type) → List (DataW H) → Bool := fun _ ds => decide (uptoBulkAll ds ≤ 1048576)
def OpenSpec.upto (s : _root_.Go.ChangeSpec) : _root_.Go.OpenSpec := { _root_.Go.OpenSpec.ofChange s with cond := some uptoSmall }

/-- 'hayloftlaw16.PlanOrders', WHERE WHAT IT READS IS OF BULK AT MOST 1048576: true; the input reads as it did. -/
def planOrdersUptoRow : OpenClaim := { program := "ytihdlalbgdighaadoor", sum := "ca3f0a1b60ea9b6e726285096d6504901fc0621570f7a3a8a40d17ba8b620bb5", func := "hayloft/hayloftlaw16.PlanOrders", spec := "planOrders", inPlace := ["internal/bytealg.abigen_runtime_cmpstring", "slices.overlaps[hayloft/exec.group]"], unfollowed := true, recurses := true, named := ["hayloft/expr.orders"], apart := false, laid := [("hayloft/expr.orders", laid_hayloft_expr_orders)], narrowed := true }
def PlanOrdersUptoSaid : Prop := planOrdersUptoRow.holds Tryd.pinned (OpenSpec.upto planOrdersSpec)

/-- 'hayloftlaw16.PlanChooses', WHERE WHAT IT READS IS OF BULK AT MOST 1048576: true; the input reads as it did. -/
def planChoosesUptoRow : OpenClaim := { program := "ytihdlalbgdighaadoor", sum := "ca3f0a1b60ea9b6e726285096d6504901fc0621570f7a3a8a40d17ba8b620bb5", func := "hayloft/hayloftlaw16.PlanChooses", spec := "planChooses", inPlace := ["internal/bytealg.abigen_runtime_cmpstring", "slices.overlaps[hayloft/exec.group]"], unfollowed := true, recurses := true, named := ["hayloft/expr.orders"], apart := false, laid := [("hayloft/expr.orders", laid_hayloft_expr_orders)], narrowed := true }
def PlanChoosesUptoSaid : Prop := planChoosesUptoRow.holds Tryd.pinned (OpenSpec.upto planChoosesSpec)

/-- 'hayloftlaw16.PlanChecks', WHERE WHAT IT READS IS OF BULK AT MOST 1048576: true; the input reads as it did. -/
def planChecksUptoRow : OpenClaim := { program := "ytihdlalbgdighaadoor", sum := "ca3f0a1b60ea9b6e726285096d6504901fc0621570f7a3a8a40d17ba8b620bb5", func := "hayloft/hayloftlaw16.PlanChecks", spec := "planChecks", inPlace := ["internal/bytealg.abigen_runtime_cmpstring", "slices.overlaps[hayloft/exec.group]"], unfollowed := true, recurses := true, named := ["hayloft/expr.orders"], apart := false, laid := [("hayloft/expr.orders", laid_hayloft_expr_orders)], narrowed := true }
def PlanChecksUptoSaid : Prop := planChecksUptoRow.holds Tryd.pinned (OpenSpec.upto planChecksSpec)

end Rows
end Go.Proofs.YtihdlalbgdighaaDoor
