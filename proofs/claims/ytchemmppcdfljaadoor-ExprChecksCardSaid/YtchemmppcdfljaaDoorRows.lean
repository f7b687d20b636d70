/-
  NARROWER THAN 'FOR EVERY INPUT', by the rows' own cells (each row's printed sentence says how): ExprTerms: laid · ExprContrary: laid · ExprOrders: laid · ExprRanks: laid · ExprSplits: laid · ExprChecks: laid.
  DERIVED. THE GIVEN ROWS OF THIS SEAT. 6 by the template 'for every input the law returns true; each argument reads behind the call as it read before'; 0 by the template 'total and deterministic' (their statements: YtchemmppcdfljaaDoorTotals.lean).
  GIVEN WITH THE SEED: the statements are not yours to turn. If you find one false, say at which input.
  Laid BY PROGRAM, IN A SANDBOX (cutbox-rows.mjs): the forced cells as the released guide's own fill.sh prints them over the translation fe3a858b355f56f8… (all of the seat's roots in one cut). By AI agents, Wed Nov 11 2026. No macro, syntax, notation, axiom, sorry.
-/
import Derived.Test.YtchemmppcdfljaaDoorChecked
import GoSem.Claim
import GoSem.ClaimJoined
import GoSem.ClaimMapViews
import Derived.JoinedTies
import Derived.KernelRfl
namespace Go.Proofs.YtchemmppcdfljaaDoor
/- THE CELL 'sum', in the pinned program and in every row, IS THE sha256 OF THE DUMP (.gsa) THAT YtchemmppcdfljaaDoorProg.lean LOADS. Nothing in Lean hashes anything: it is a label: what it is worth is what the hold of that sum in a sandbox is worth. -/
noncomputable def Tryd.pinned : Pinned := { name := "ytchemmppcdfljaadoor", sum := "fe3a858b355f56f89de6fdf3f0d41dda00106646e3485d9d2b3ccde5dfcd84ec", checked := Tryd.checked }
namespace Rows
def none {H : Type} : Left H := { results := [], args := [] }

/- WHAT THE LISTED PACKAGE-LEVEL VARIABLES READ AS WHEN THE CALL BEGINS. Each datum BY PROGRAM (the guide's laid-datum.mjs) off the statement by which the dump's own 'gosem.cut.vars' lays the variable. In a bare row this is a premise. The card (YtchemmppcdfljaaDoorCards.lean) ties it to the program's text. -/
def laid_hayloft_expr_orders {H : Type} : DataW H := .agg [.agg [.lit (.bool false), .lit (.bool true), .lit (.bool false)], .agg [.lit (.bool true), .lit (.bool false), .lit (.bool true)], .agg [.lit (.bool true), .lit (.bool false), .lit (.bool false)], .agg [.lit (.bool true), .lit (.bool true), .lit (.bool false)], .agg [.lit (.bool false), .lit (.bool false), .lit (.bool true)], .agg [.lit (.bool false), .lit (.bool true), .lit (.bool true)]]

/-- 'hayloftlaw14.ExprTerms': WHATEVER THE INPUT: true; the input reads as it did. -/
def exprTermsSpec : ChangeSpec := { name := "exprTerms", fn := fun _ => fun
  | [d1, d2] => { results := [.lit (.bool true)], args := [d1, d2] }
  | _ => none }
def exprTermsRow : OpenClaim := { program := "ytchemmppcdfljaadoor", sum := "fe3a858b355f56f89de6fdf3f0d41dda00106646e3485d9d2b3ccde5dfcd84ec", func := "hayloft/hayloftlaw14.ExprTerms", spec := "exprTerms", inPlace := ["internal/bytealg.abigen_runtime_cmpstring"], unfollowed := true, recurses := true, named := ["hayloft/expr.orders"], apart := false, laid := [("hayloft/expr.orders", laid_hayloft_expr_orders)] }
def ExprTermsSaid : Prop := exprTermsRow.holds Tryd.pinned (OpenSpec.ofChange exprTermsSpec)

/-- ITS FALSE NEIGHBOUR: 'it returns false'. Refute it at one input. -/
def exprTermsWrong : ChangeSpec := { name := "exprTerms", fn := fun _ => fun
  | [d1, d2] => { results := [.lit (.bool false)], args := [d1, d2] }
  | _ => none }
def ExprTermsWrongFalsely : Prop := exprTermsRow.holds Tryd.pinned (OpenSpec.ofChange exprTermsWrong)

/-- 'hayloftlaw14.ExprContrary': WHATEVER THE INPUT: true; the input reads as it did. -/
def exprContrarySpec : ChangeSpec := { name := "exprContrary", fn := fun _ => fun
  | [d1, d2] => { results := [.lit (.bool true)], args := [d1, d2] }
  | _ => none }
def exprContraryRow : OpenClaim := { program := "ytchemmppcdfljaadoor", sum := "fe3a858b355f56f89de6fdf3f0d41dda00106646e3485d9d2b3ccde5dfcd84ec", func := "hayloft/hayloftlaw14.ExprContrary", spec := "exprContrary", inPlace := ["internal/bytealg.abigen_runtime_cmpstring"], unfollowed := true, recurses := true, named := ["hayloft/expr.orders"], apart := false, laid := [("hayloft/expr.orders", laid_hayloft_expr_orders)] }
def ExprContrarySaid : Prop := exprContraryRow.holds Tryd.pinned (OpenSpec.ofChange exprContrarySpec)

/-- ITS FALSE NEIGHBOUR: 'it returns false'. Refute it at one input. -/
def exprContraryWrong : ChangeSpec := { name := "exprContrary", fn := fun _ => fun
  | [d1, d2] => { results := [.lit (.bool false)], args := [d1, d2] }
  | _ => none }
def ExprContraryWrongFalsely : Prop := exprContraryRow.holds Tryd.pinned (OpenSpec.ofChange exprContraryWrong)

/-- 'hayloftlaw14.ExprOrders': WHATEVER THE INPUT: true; the input reads as it did. -/
def exprOrdersSpec : ChangeSpec := { name := "exprOrders", fn := fun _ => fun
  | [d1, d2, d3] => { results := [.lit (.bool true)], args := [d1, d2, d3] }
  | _ => none }
def exprOrdersRow : OpenClaim := { program := "ytchemmppcdfljaadoor", sum := "fe3a858b355f56f89de6fdf3f0d41dda00106646e3485d9d2b3ccde5dfcd84ec", func := "hayloft/hayloftlaw14.ExprOrders", spec := "exprOrders", inPlace := ["internal/bytealg.abigen_runtime_cmpstring"], unfollowed := true, recurses := true, named := ["hayloft/expr.orders"], apart := false, laid := [("hayloft/expr.orders", laid_hayloft_expr_orders)] }
def ExprOrdersSaid : Prop := exprOrdersRow.holds Tryd.pinned (OpenSpec.ofChange exprOrdersSpec)

/-- ITS FALSE NEIGHBOUR: 'it returns false'. Refute it at one input. -/
def exprOrdersWrong : ChangeSpec := { name := "exprOrders", fn := fun _ => fun
  | [d1, d2, d3] => { results := [.lit (.bool false)], args := [d1, d2, d3] }
  | _ => none }
def ExprOrdersWrongFalsely : Prop := exprOrdersRow.holds Tryd.pinned (OpenSpec.ofChange exprOrdersWrong)

/-- 'hayloftlaw14.ExprRanks': WHATEVER THE INPUT: true; the input reads as it did. -/
def exprRanksSpec : ChangeSpec := { name := "exprRanks", fn := fun _ => fun
  | [d1, d2, d3] => { results := [.lit (.bool true)], args := [d1, d2, d3] }
  | _ => none }
def exprRanksRow : OpenClaim := { program := "ytchemmppcdfljaadoor", sum := "fe3a858b355f56f89de6fdf3f0d41dda00106646e3485d9d2b3ccde5dfcd84ec", func := "hayloft/hayloftlaw14.ExprRanks", spec := "exprRanks", inPlace := ["internal/bytealg.abigen_runtime_cmpstring"], unfollowed := true, recurses := true, named := ["hayloft/expr.orders"], apart := false, laid := [("hayloft/expr.orders", laid_hayloft_expr_orders)] }
def ExprRanksSaid : Prop := exprRanksRow.holds Tryd.pinned (OpenSpec.ofChange exprRanksSpec)

/-- ITS FALSE NEIGHBOUR: 'it returns false'. Refute it at one input. -/
def exprRanksWrong : ChangeSpec := { name := "exprRanks", fn := fun _ => fun
  | [d1, d2, d3] => { results := [.lit (.bool false)], args := [d1, d2, d3] }
  | _ => none }
def ExprRanksWrongFalsely : Prop := exprRanksRow.holds Tryd.pinned (OpenSpec.ofChange exprRanksWrong)

/-- 'hayloftlaw14.ExprSplits': WHATEVER THE INPUT: true; the input reads as it did. -/
def exprSplitsSpec : ChangeSpec := { name := "exprSplits", fn := fun _ => fun
  | [d1, d2, d3] => { results := [.lit (.bool true)], args := [d1, d2, d3] }
  | _ => none }
def exprSplitsRow : OpenClaim := { program := "ytchemmppcdfljaadoor", sum := "fe3a858b355f56f89de6fdf3f0d41dda00106646e3485d9d2b3ccde5dfcd84ec", func := "hayloft/hayloftlaw14.ExprSplits", spec := "exprSplits", inPlace := ["internal/bytealg.abigen_runtime_cmpstring"], unfollowed := true, recurses := true, named := ["hayloft/expr.orders"], apart := false, laid := [("hayloft/expr.orders", laid_hayloft_expr_orders)] }
def ExprSplitsSaid : Prop := exprSplitsRow.holds Tryd.pinned (OpenSpec.ofChange exprSplitsSpec)

/-- ITS FALSE NEIGHBOUR: 'it returns false'. Refute it at one input. -/
def exprSplitsWrong : ChangeSpec := { name := "exprSplits", fn := fun _ => fun
  | [d1, d2, d3] => { results := [.lit (.bool false)], args := [d1, d2, d3] }
  | _ => none }
def ExprSplitsWrongFalsely : Prop := exprSplitsRow.holds Tryd.pinned (OpenSpec.ofChange exprSplitsWrong)

/-- 'hayloftlaw14.ExprChecks': WHATEVER THE INPUT: true; the input reads as it did. -/
def exprChecksSpec : ChangeSpec := { name := "exprChecks", fn := fun _ => fun
  | [d1, d2] => { results := [.lit (.bool true)], args := [d1, d2] }
  | _ => none }
def exprChecksRow : OpenClaim := { program := "ytchemmppcdfljaadoor", sum := "fe3a858b355f56f89de6fdf3f0d41dda00106646e3485d9d2b3ccde5dfcd84ec", func := "hayloft/hayloftlaw14.ExprChecks", spec := "exprChecks", inPlace := ["internal/bytealg.abigen_runtime_cmpstring"], unfollowed := true, recurses := true, named := ["hayloft/expr.orders"], apart := false, laid := [("hayloft/expr.orders", laid_hayloft_expr_orders)] }
def ExprChecksSaid : Prop := exprChecksRow.holds Tryd.pinned (OpenSpec.ofChange exprChecksSpec)

/-- ITS FALSE NEIGHBOUR: 'it returns false'. Refute it at one input. -/
def exprChecksWrong : ChangeSpec := { name := "exprChecks", fn := fun _ => fun
  | [d1, d2] => { results := [.lit (.bool false)], args := [d1, d2] }
  | _ => none }
def ExprChecksWrongFalsely : Prop := exprChecksRow.holds Tryd.pinned (OpenSpec.ofChange exprChecksWrong)

/- THE SECOND FORM. 'bulk': how many values and letters a reading holds, each counted each time it is reached (what is shared counts as often as it is met; a slice's spare places count too). A statement '..UptoSaid' is the law's where the arguments, and the package variables that the reading takes, are together of bulk at most 1048576: NARROWER than '..Said'. Prove '..Said' where nothing that the law and all that it calls make is longer than what came in: it says more and counts as full. Else prove '..UptoSaid'. A law counts once. -/
mutual
def uptoBulk {H : Type} : DataW H → Nat
  | .lit (.string bytes) => bytes.length + 1
  | .lit _ => 1
  | .nil => 1
  | .ptr d => uptoBulk d + 1
  | .slice elems spare => uptoBulkAll elems + uptoBulkAll spare + 1
  | .agg parts => uptoBulkAll parts + 1
  | .iface _ d => uptoBulk d + 1
  | .map entries => uptoBulkEntries entries + 1
  | .held _ => 1
def uptoBulkAll {H : Type} : List (DataW H) → Nat
  | [] => 0
  | d :: r => uptoBulk d + uptoBulkAll r
def uptoBulkEntries {H : Type} : List (Lit × DataW H) → Nat
  | [] => 0
  | x :: r => uptoBulkEntry x + uptoBulkEntries r
def uptoBulkEntry {H : Type} : Lit × DataW H → Nat
  | (.string bytes, d) => bytes.length + uptoBulk d + 1
  | (_, d) => uptoBulk d + 1
 end
def uptoSmall : (H : Type) → List (DataW H) → Bool := fun _ ds => decide (uptoBulkAll ds ≤ 1048576)
def OpenSpec.upto (s : _root_.Go.ChangeSpec) : _root_.Go.OpenSpec := { _root_.Go.OpenSpec.ofChange s with cond := some uptoSmall }

/-- 'hayloftlaw14.ExprTerms', WHERE WHAT IT READS IS OF BULK AT MOST 1048576: true; the input reads as it did. -/
def exprTermsUptoRow : OpenClaim := { program := "ytchemmppcdfljaadoor", sum := "fe3a858b355f56f89de6fdf3f0d41dda00106646e3485d9d2b3ccde5dfcd84ec", func := "hayloft/hayloftlaw14.ExprTerms", spec := "exprTerms", inPlace := ["internal/bytealg.abigen_runtime_cmpstring"], unfollowed := true, recurses := true, named := ["hayloft/expr.orders"], apart := false, laid := [("hayloft/expr.orders", laid_hayloft_expr_orders)], narrowed := true }
def ExprTermsUptoSaid : Prop := exprTermsUptoRow.holds Tryd.pinned (OpenSpec.upto exprTermsSpec)

/-- 'hayloftlaw14.ExprContrary', WHERE WHAT IT READS IS OF BULK AT MOST 1048576: true; the input reads as it did. -/
def exprContraryUptoRow : OpenClaim := { program := "ytchemmppcdfljaadoor", sum := "fe3a858b355f56f89de6fdf3f0d41dda00106646e3485d9d2b3ccde5dfcd84ec", func := "hayloft/hayloftlaw14.ExprContrary", spec := "exprContrary", inPlace := ["internal/bytealg.abigen_runtime_cmpstring"], unfollowed := true, recurses := true, named := ["hayloft/expr.orders"], apart := false, laid := [("hayloft/expr.orders", laid_hayloft_expr_orders)], narrowed := true }
def ExprContraryUptoSaid : Prop := exprContraryUptoRow.holds Tryd.pinned (OpenSpec.upto exprContrarySpec)

/-- 'hayloftlaw14.ExprOrders', WHERE WHAT IT READS IS OF BULK AT MOST 1048576: true; the input reads as it did. -/
def exprOrdersUptoRow : OpenClaim := { program := "ytchemmppcdfljaadoor", sum := "fe3a858b355f56f89de6fdf3f0d41dda00106646e3485d9d2b3ccde5dfcd84ec", func := "hayloft/hayloftlaw14.ExprOrders", spec := "exprOrders", inPlace := ["internal/bytealg.abigen_runtime_cmpstring"], unfollowed := true, recurses := true, named := ["hayloft/expr.orders"], apart := false, laid := [("hayloft/expr.orders", laid_hayloft_expr_orders)], narrowed := true }
def ExprOrdersUptoSaid : Prop := exprOrdersUptoRow.holds Tryd.pinned (OpenSpec.upto exprOrdersSpec)

/-- 'hayloftlaw14.ExprRanks', WHERE WHAT IT READS IS OF BULK AT MOST 1048576: true; the input reads as it did. -/
def exprRanksUptoRow : OpenClaim := { program := "ytchemmppcdfljaadoor", sum := "fe3a858b355f56f89de6fdf3f0d41dda00106646e3485d9d2b3ccde5dfcd84ec", func := "hayloft/hayloftlaw14.ExprRanks", spec := "exprRanks", inPlace := ["internal/bytealg.abigen_runtime_cmpstring"], unfollowed := true, recurses := true, named := ["hayloft/expr.orders"], apart := false, laid := [("hayloft/expr.orders", laid_hayloft_expr_orders)], narrowed := true }
def ExprRanksUptoSaid : Prop := exprRanksUptoRow.holds Tryd.pinned (OpenSpec.upto exprRanksSpec)

/-- 'hayloftlaw14.ExprSplits', WHERE WHAT IT READS IS OF BULK AT MOST 1048576: true; the input reads as it did. -/
def exprSplitsUptoRow : OpenClaim := { program := "ytchemmppcdfljaadoor", sum := "fe3a858b355f56f89de6fdf3f0d41dda00106646e3485d9d2b3ccde5dfcd84ec", func := "hayloft/hayloftlaw14.ExprSplits", spec := "exprSplits", inPlace := ["internal/bytealg.abigen_runtime_cmpstring"], unfollowed := true, recurses := true, named := ["hayloft/expr.orders"], apart := false, laid := [("hayloft/expr.orders", laid_hayloft_expr_orders)], narrowed := true }
def ExprSplitsUptoSaid : Prop := exprSplitsUptoRow.holds Tryd.pinned (OpenSpec.upto exprSplitsSpec)

/-- 'hayloftlaw14.ExprChecks', WHERE WHAT IT READS IS OF BULK AT MOST 1048576: true; the input reads as it did. -/
def exprChecksUptoRow : OpenClaim := { program := "ytchemmppcdfljaadoor", sum := "fe3a858b355f56f89de6fdf3f0d41dda00106646e3485d9d2b3ccde5dfcd84ec", func := "hayloft/hayloftlaw14.ExprChecks", spec := "exprChecks", inPlace := ["internal/bytealg.abigen_runtime_cmpstring"], unfollowed := true, recurses := true, named := ["hayloft/expr.orders"], apart := false, laid := [("hayloft/expr.orders", laid_hayloft_expr_orders)], narrowed := true }
def ExprChecksUptoSaid : Prop := exprChecksUptoRow.holds Tryd.pinned (OpenSpec.upto exprChecksSpec)

end Rows
end Go.Proofs.YtchemmppcdfljaaDoor
