/-
  No cell of these rows narrows 'for every input' (looked for: loops, veiled, ifaces, maps, wideKeys, modest, calm, conditions, laid).
  DERIVED. THE GIVEN ROWS OF THIS SEAT. 7 by the template 'for every input the law returns true; each argument reads behind the call as it read before'; 0 by the template 'total and deterministic' (their statements: YtfepfpcilmaojaaTotals.lean).
  GIVEN WITH THE SEED: the statements are not yours to turn. If you find one false, say at which input.
  Laid BY PROGRAM, IN A SANDBOX (cutbox-rows.mjs): the forced cells as the released guide's own fill.sh prints them over the translation 7395a20e78bb309d… (all of the seat's roots in one cut). By AI agents, Wed Nov 11 2026. No macro, syntax, notation, axiom, sorry.
-/
import Derived.Test.YtfepfpcilmaojaaChecked
import GoSem.Claim
import GoSem.ClaimJoined
import GoSem.ClaimMapViews
import Derived.JoinedTies
import Derived.KernelRfl
namespace Go.Proofs.Ytfepfpcilmaojaa
/- THE CELL 'sum', in the pinned program and in every row, IS THE sha256 OF THE DUMP (.gsa) THAT YtfepfpcilmaojaaProg.lean LOADS. Nothing in Lean hashes anything: it is a label: what it is worth is what the hold of that sum in a sandbox is worth. -/
noncomputable def Try.pinned : Pinned := { name := "ytfepfpcilmaojaa", sum := "7395a20e78bb309dd75815077772008a3e716ffe297e4f3ea6f3fc0c4f34559f", checked := Try.checked }
namespace Rows
def none {H : Type} : Left H := { results := [], args := [] }

/-- 'hayloftlaw18.RecoverGives': WHATEVER THE INPUT: true; the input reads as it did. -/
def recoverGivesSpec : ChangeSpec := { name := "recoverGives", fn := fun _ => fun
  | [d1, d2, d3] => { results := [.lit (.bool true)], args := [d1, d2, d3] }
  | _ => none }
def recoverGivesRow : OpenClaim := { program := "ytfepfpcilmaojaa", sum := "7395a20e78bb309dd75815077772008a3e716ffe297e4f3ea6f3fc0c4f34559f", func := "hayloft/hayloftlaw18.RecoverGives", spec := "recoverGives", unfollowed := true, recurses := true, plainKeys := false, apart := false }
def RecoverGivesSaid : Prop := recoverGivesRow.holds Try.pinned (OpenSpec.ofChange recoverGivesSpec)

/-- ITS FALSE NEIGHBOUR: 'it returns false'. Refute it at one input. -/
def recoverGivesWrong : ChangeSpec := { name := "recoverGives", fn := fun _ => fun
  | [d1, d2, d3] => { results := [.lit (.bool false)], args := [d1, d2, d3] }
  | _ => none }
def RecoverGivesWrongFalsely : Prop := recoverGivesRow.holds Try.pinned (OpenSpec.ofChange recoverGivesWrong)

/-- 'hayloftlaw18.RecoverMerges': WHATEVER THE INPUT: true; the input reads as it did. -/
def recoverMergesSpec : ChangeSpec := { name := "recoverMerges", fn := fun _ => fun
  | [d1, d2] => { results := [.lit (.bool true)], args := [d1, d2] }
  | _ => none }
def recoverMergesRow : OpenClaim := { program := "ytfepfpcilmaojaa", sum := "7395a20e78bb309dd75815077772008a3e716ffe297e4f3ea6f3fc0c4f34559f", func := "hayloft/hayloftlaw18.RecoverMerges", spec := "recoverMerges", unfollowed := true, recurses := true, plainKeys := false, apart := false }
def RecoverMergesSaid : Prop := recoverMergesRow.holds Try.pinned (OpenSpec.ofChange recoverMergesSpec)

/-- ITS FALSE NEIGHBOUR: 'it returns false'. Refute it at one input. -/
def recoverMergesWrong : ChangeSpec := { name := "recoverMerges", fn := fun _ => fun
  | [d1, d2] => { results := [.lit (.bool false)], args := [d1, d2] }
  | _ => none }
def RecoverMergesWrongFalsely : Prop := recoverMergesRow.holds Try.pinned (OpenSpec.ofChange recoverMergesWrong)

/-- 'hayloftlaw18.RecoverCatches': WHATEVER THE INPUT: true; the input reads as it did. -/
def recoverCatchesSpec : ChangeSpec := { name := "recoverCatches", fn := fun _ => fun
  | [d1, d2] => { results := [.lit (.bool true)], args := [d1, d2] }
  | _ => none }
def recoverCatchesRow : OpenClaim := { program := "ytfepfpcilmaojaa", sum := "7395a20e78bb309dd75815077772008a3e716ffe297e4f3ea6f3fc0c4f34559f", func := "hayloft/hayloftlaw18.RecoverCatches", spec := "recoverCatches", unfollowed := true, recurses := true, plainKeys := false, apart := false }
def RecoverCatchesSaid : Prop := recoverCatchesRow.holds Try.pinned (OpenSpec.ofChange recoverCatchesSpec)

/-- ITS FALSE NEIGHBOUR: 'it returns false'. Refute it at one input. -/
def recoverCatchesWrong : ChangeSpec := { name := "recoverCatches", fn := fun _ => fun
  | [d1, d2] => { results := [.lit (.bool false)], args := [d1, d2] }
  | _ => none }
def RecoverCatchesWrongFalsely : Prop := recoverCatchesRow.holds Try.pinned (OpenSpec.ofChange recoverCatchesWrong)

/-- 'hayloftlaw18.RecoverPurged': WHATEVER THE INPUT: true; the input reads as it did. -/
def recoverPurgedSpec : ChangeSpec := { name := "recoverPurged", fn := fun _ => fun
  | [d1, d2] => { results := [.lit (.bool true)], args := [d1, d2] }
  | _ => none }
def recoverPurgedRow : OpenClaim := { program := "ytfepfpcilmaojaa", sum := "7395a20e78bb309dd75815077772008a3e716ffe297e4f3ea6f3fc0c4f34559f", func := "hayloft/hayloftlaw18.RecoverPurged", spec := "recoverPurged", unfollowed := true, recurses := true, plainKeys := false, apart := false }
def RecoverPurgedSaid : Prop := recoverPurgedRow.holds Try.pinned (OpenSpec.ofChange recoverPurgedSpec)

/-- ITS FALSE NEIGHBOUR: 'it returns false'. Refute it at one input. -/
def recoverPurgedWrong : ChangeSpec := { name := "recoverPurged", fn := fun _ => fun
  | [d1, d2] => { results := [.lit (.bool false)], args := [d1, d2] }
  | _ => none }
def RecoverPurgedWrongFalsely : Prop := recoverPurgedRow.holds Try.pinned (OpenSpec.ofChange recoverPurgedWrong)

/-- 'hayloftlaw18.RecoverAgain': WHATEVER THE INPUT: true; the input reads as it did. -/
def recoverAgainSpec : ChangeSpec := { name := "recoverAgain", fn := fun _ => fun
  | [d1, d2, d3] => { results := [.lit (.bool true)], args := [d1, d2, d3] }
  | _ => none }
def recoverAgainRow : OpenClaim := { program := "ytfepfpcilmaojaa", sum := "7395a20e78bb309dd75815077772008a3e716ffe297e4f3ea6f3fc0c4f34559f", func := "hayloft/hayloftlaw18.RecoverAgain", spec := "recoverAgain", unfollowed := true, recurses := true, plainKeys := false, apart := false }
def RecoverAgainSaid : Prop := recoverAgainRow.holds Try.pinned (OpenSpec.ofChange recoverAgainSpec)

/-- ITS FALSE NEIGHBOUR: 'it returns false'. Refute it at one input. -/
def recoverAgainWrong : ChangeSpec := { name := "recoverAgain", fn := fun _ => fun
  | [d1, d2, d3] => { results := [.lit (.bool false)], args := [d1, d2, d3] }
  | _ => none }
def RecoverAgainWrongFalsely : Prop := recoverAgainRow.holds Try.pinned (OpenSpec.ofChange recoverAgainWrong)

/-- 'hayloftlaw18.RecoverMissing': WHATEVER THE INPUT: true; the input reads as it did. -/
def recoverMissingSpec : ChangeSpec := { name := "recoverMissing", fn := fun _ => fun
  | [d1, d2] => { results := [.lit (.bool true)], args := [d1, d2] }
  | _ => none }
def recoverMissingRow : OpenClaim := { program := "ytfepfpcilmaojaa", sum := "7395a20e78bb309dd75815077772008a3e716ffe297e4f3ea6f3fc0c4f34559f", func := "hayloft/hayloftlaw18.RecoverMissing", spec := "recoverMissing", unfollowed := true, recurses := true, plainKeys := false, apart := false }
def RecoverMissingSaid : Prop := recoverMissingRow.holds Try.pinned (OpenSpec.ofChange recoverMissingSpec)

/-- ITS FALSE NEIGHBOUR: 'it returns false'. Refute it at one input. -/
def recoverMissingWrong : ChangeSpec := { name := "recoverMissing", fn := fun _ => fun
  | [d1, d2] => { results := [.lit (.bool false)], args := [d1, d2] }
  | _ => none }
def RecoverMissingWrongFalsely : Prop := recoverMissingRow.holds Try.pinned (OpenSpec.ofChange recoverMissingWrong)

/-- 'hayloftlaw18.RecoverOrder': WHATEVER THE INPUT: true; the input reads as it did. -/
def recoverOrderSpec : ChangeSpec := { name := "recoverOrder", fn := fun _ => fun
  | [d1, d2, d3] => { results := [.lit (.bool true)], args := [d1, d2, d3] }
  | _ => none }
def recoverOrderRow : OpenClaim := { program := "ytfepfpcilmaojaa", sum := "7395a20e78bb309dd75815077772008a3e716ffe297e4f3ea6f3fc0c4f34559f", func := "hayloft/hayloftlaw18.RecoverOrder", spec := "recoverOrder", unfollowed := true, recurses := true, plainKeys := false, apart := false }
def RecoverOrderSaid : Prop := recoverOrderRow.holds Try.pinned (OpenSpec.ofChange recoverOrderSpec)

/-- ITS FALSE NEIGHBOUR: 'it returns false'. Refute it at one input. -/
def recoverOrderWrong : ChangeSpec := { name := "recoverOrder", fn := fun _ => fun
  | [d1, d2, d3] => { results := [.lit (.bool false)], args := [d1, d2, d3] }
  | _ => none }
def RecoverOrderWrongFalsely : Prop := recoverOrderRow.holds Try.pinned (OpenSpec.ofChange recoverOrderWrong)

/- THE SECOND FORM. 'bulk': how many values and letters a reading holds, each counted each time it is reached (what is shared counts as often as it is met; a slice's spare places count too). A statement '..UptoSaid' is the law's where the arguments, and the package variables that the reading takes, are together of bulk at most 1048576: NARROWER than '..Said'. Prove '..Said' where nothing that the law and all that it calls make is longer than what came in: it says more and counts as full. Else prove '..UptoSaid'. A law counts once. -/
mutual
def uptoBulk {H : Type} : DataW H → Nat
  | .lit (.string bytes) => bytes.length + 1
  | .lit _ => 1
  | .nil => 1
  | .ptr d => uptoBulk d + 1
  | .slice elems spare => uptoBulkAll elems + uptoBulkAll spare + 1
  | .agg parts => uptoBulkAll parts + 1
  | .iface _ d => uptoBulk d + 1
  | .map entries => uptoBulkEntries entries + 1
  | .held _ => 1
def uptoBulkAll {H : Type} : List (DataW H) → Nat
  | [] => 0
  | d :: r => uptoBulk d + uptoBulkAll r
def uptoBulkEntries {H : Type} : List (Lit × DataW H) → Nat
  | [] => 0
  | x :: r => uptoBulkEntry x + uptoBulkEntries r
def uptoBulkEntry {H : Type} : Lit × DataW H → Nat
  | (.string bytes, d) => bytes.length + uptoBulk d + 1
  | (_, d) => uptoBulk d + 1
 end
def uptoSmall : (H : Type) → List (DataW H) → Bool := fun _ ds => decide (uptoBulkAll ds ≤ 1048576)
def OpenSpec.upto (s : _root_.Go.ChangeSpec) : _root_.Go.OpenSpec := { _root_.Go.OpenSpec.ofChange s with cond := some uptoSmall }

/-- 'hayloftlaw18.RecoverGives', WHERE WHAT IT READS IS OF BULK AT MOST 1048576: true; the input reads as it did. -/
def recoverGivesUptoRow : OpenClaim := { program := "ytfepfpcilmaojaa", sum := "7395a20e78bb309dd75815077772008a3e716ffe297e4f3ea6f3fc0c4f34559f", func := "hayloft/hayloftlaw18.RecoverGives", spec := "recoverGives", unfollowed := true, recurses := true, plainKeys := false, apart := false, narrowed := true }
def RecoverGivesUptoSaid : Prop := recoverGivesUptoRow.holds Try.pinned (OpenSpec.upto recoverGivesSpec)

/-- 'hayloftlaw18.RecoverMerges', WHERE WHAT IT READS IS OF BULK AT MOST 1048576: true; the input reads as it did. -/
def recoverMergesUptoRow : OpenClaim := { program := "ytfepfpcilmaojaa", sum := "7395a20e78bb309dd75815077772008a3e716ffe297e4f3ea6f3fc0c4f34559f", func := "hayloft/hayloftlaw18.RecoverMerges", spec := "recoverMerges", unfollowed := true, recurses := true, plainKeys := false, apart := false, narrowed := true }
def RecoverMergesUptoSaid : Prop := recoverMergesUptoRow.holds Try.pinned (OpenSpec.upto recoverMergesSpec)

/-- 'hayloftlaw18.RecoverCatches', WHERE WHAT IT READS IS OF BULK AT MOST 1048576: true; the input reads as it did. -/
def recoverCatchesUptoRow : OpenClaim := { program := "ytfepfpcilmaojaa", sum := "7395a20e78bb309dd75815077772008a3e716ffe297e4f3ea6f3fc0c4f34559f", func := "hayloft/hayloftlaw18.RecoverCatches", spec := "recoverCatches", unfollowed := true, recurses := true, plainKeys := false, apart := false, narrowed := true }
def RecoverCatchesUptoSaid : Prop := recoverCatchesUptoRow.holds Try.pinned (OpenSpec.upto recoverCatchesSpec)

/-- 'hayloftlaw18.RecoverPurged', WHERE WHAT IT READS IS OF BULK AT MOST 1048576: true; the input reads as it did. -/
def recoverPurgedUptoRow : OpenClaim := { program := "ytfepfpcilmaojaa", sum := "7395a20e78bb309dd75815077772008a3e716ffe297e4f3ea6f3fc0c4f34559f", func := "hayloft/hayloftlaw18.RecoverPurged", spec := "recoverPurged", unfollowed := true, recurses := true, plainKeys := false, apart := false, narrowed := true }
def RecoverPurgedUptoSaid : Prop := recoverPurgedUptoRow.holds Try.pinned (OpenSpec.upto recoverPurgedSpec)

/-- 'hayloftlaw18.RecoverAgain', WHERE WHAT IT READS IS OF BULK AT MOST 1048576: true; the input reads as it did. -/
def recoverAgainUptoRow : OpenClaim := { program := "ytfepfpcilmaojaa", sum := "7395a20e78bb309dd75815077772008a3e716ffe297e4f3ea6f3fc0c4f34559f", func := "hayloft/hayloftlaw18.RecoverAgain", spec := "recoverAgain", unfollowed := true, recurses := true, plainKeys := false, apart := false, narrowed := true }
def RecoverAgainUptoSaid : Prop := recoverAgainUptoRow.holds Try.pinned (OpenSpec.upto recoverAgainSpec)

/-- 'hayloftlaw18.RecoverMissing', WHERE WHAT IT READS IS OF BULK AT MOST 1048576: true; the input reads as it did. -/
def recoverMissingUptoRow : OpenClaim := { program := "ytfepfpcilmaojaa", sum := "7395a20e78bb309dd75815077772008a3e716ffe297e4f3ea6f3fc0c4f34559f", func := "hayloft/hayloftlaw18.RecoverMissing", spec := "recoverMissing", unfollowed := true, recurses := true, plainKeys := false, apart := false, narrowed := true }
def RecoverMissingUptoSaid : Prop := recoverMissingUptoRow.holds Try.pinned (OpenSpec.upto recoverMissingSpec)

/-- 'hayloftlaw18.RecoverOrder', WHERE WHAT IT READS IS OF BULK AT MOST 1048576: true; the input reads as it did. -/
def recoverOrderUptoRow : OpenClaim := { program := "ytfepfpcilmaojaa", sum := "7395a20e78bb309dd75815077772008a3e716ffe297e4f3ea6f3fc0c4f34559f", func := "hayloft/hayloftlaw18.RecoverOrder", spec := "recoverOrder", unfollowed := true, recurses := true, plainKeys := false, apart := false, narrowed := true }
def RecoverOrderUptoSaid : Prop := recoverOrderUptoRow.holds Try.pinned (OpenSpec.upto recoverOrderSpec)

end Rows
end Go.Proofs.Ytfepfpcilmaojaa
