/-
  No cell of these rows narrows 'for every input' (looked for: loops, veiled, ifaces, maps, wideKeys, modest, calm, conditions, laid).
  DERIVED. THE GIVEN ROWS OF THIS SEAT. 6 by the template 'for every input the law returns true; each argument reads behind the call as it read before'; 0 by the template 'total and deterministic' (their statements: YtghblnldokpceaaTotals.lean).
  GIVEN WITH THE SEED: the statements are not yours to turn. If you find one false, say at which input.
  Laid BY PROGRAM, IN A SANDBOX (cutbox-rows.mjs): the forced cells as the released guide's own fill.sh prints them over the translation fccc23f429a9a0ae… (all of the seat's roots in one cut). By AI agents, Wed Nov 11 2026. No macro, syntax, notation, axiom, sorry.
-/
import Derived.Test.YtghblnldokpceaaChecked
import GoSem.Claim
import GoSem.ClaimJoined
import GoSem.ClaimMapViews
import Derived.JoinedTies
import Derived.KernelRfl
namespace Go.Proofs.Ytghblnldokpceaa
/- THE CELL 'sum', in the pinned program and in every row, IS THE sha256 OF THE DUMP (.gsa) THAT YtghblnldokpceaaProg.lean LOADS. Nothing in Lean hashes anything: it is a label: what it is worth is what the hold of that sum in a sandbox is worth. -/
noncomputable def Try.pinned : Pinned := { name := "ytghblnldokpceaa", sum := "fccc23f429a9a0aedaea770906c839a31ffc350d404a948d569f9e9716f7682b", checked := Try.checked }
namespace Rows
def none {H : Type} : Left H := { results := [], args := [] }

/-- 'hayloftlaw15.ExecJoins': WHATEVER THE INPUT: true; the input reads as it did. -/
def execJoinsSpec : ChangeSpec := { name := "execJoins", fn := fun _ => fun
  | [d1, d2, d3] => { results := [.lit (.bool true)], args := [d1, d2, d3] }
  | _ => none }
def execJoinsRow : OpenClaim := { program := "ytghblnldokpceaa", sum := "fccc23f429a9a0aedaea770906c839a31ffc350d404a948d569f9e9716f7682b", func := "hayloft/hayloftlaw15.ExecJoins", spec := "execJoins", inPlace := ["internal/bytealg.abigen_runtime_cmpstring", "slices.overlaps[hayloft/exec.group]"], unfollowed := true, recurses := true, apart := false }
def ExecJoinsSaid : Prop := execJoinsRow.holds Try.pinned (OpenSpec.ofChange execJoinsSpec)

/-- ITS FALSE NEIGHBOUR: 'it returns false'. Refute it at one input. -/
def execJoinsWrong : ChangeSpec := { name := "execJoins", fn := fun _ => fun
  | [d1, d2, d3] => { results := [.lit (.bool false)], args := [d1, d2, d3] }
  | _ => none }
def ExecJoinsWrongFalsely : Prop := execJoinsRow.holds Try.pinned (OpenSpec.ofChange execJoinsWrong)

/-- 'hayloftlaw15.ExecGroups': WHATEVER THE INPUT: true; the input reads as it did. -/
def execGroupsSpec : ChangeSpec := { name := "execGroups", fn := fun _ => fun
  | [d1, d2, d3] => { results := [.lit (.bool true)], args := [d1, d2, d3] }
  | _ => none }
def execGroupsRow : OpenClaim := { program := "ytghblnldokpceaa", sum := "fccc23f429a9a0aedaea770906c839a31ffc350d404a948d569f9e9716f7682b", func := "hayloft/hayloftlaw15.ExecGroups", spec := "execGroups", inPlace := ["internal/bytealg.abigen_runtime_cmpstring", "slices.overlaps[hayloft/exec.group]"], unfollowed := true, recurses := true, apart := false }
def ExecGroupsSaid : Prop := execGroupsRow.holds Try.pinned (OpenSpec.ofChange execGroupsSpec)

/-- ITS FALSE NEIGHBOUR: 'it returns false'. Refute it at one input. -/
def execGroupsWrong : ChangeSpec := { name := "execGroups", fn := fun _ => fun
  | [d1, d2, d3] => { results := [.lit (.bool false)], args := [d1, d2, d3] }
  | _ => none }
def ExecGroupsWrongFalsely : Prop := execGroupsRow.holds Try.pinned (OpenSpec.ofChange execGroupsWrong)

/-- 'hayloftlaw15.ExecSwaps': WHATEVER THE INPUT: true; the input reads as it did. -/
def execSwapsSpec : ChangeSpec := { name := "execSwaps", fn := fun _ => fun
  | [d1, d2, d3] => { results := [.lit (.bool true)], args := [d1, d2, d3] }
  | _ => none }
def execSwapsRow : OpenClaim := { program := "ytghblnldokpceaa", sum := "fccc23f429a9a0aedaea770906c839a31ffc350d404a948d569f9e9716f7682b", func := "hayloft/hayloftlaw15.ExecSwaps", spec := "execSwaps", inPlace := ["internal/bytealg.abigen_runtime_cmpstring", "slices.overlaps[hayloft/exec.group]"], unfollowed := true, recurses := true, apart := false }
def ExecSwapsSaid : Prop := execSwapsRow.holds Try.pinned (OpenSpec.ofChange execSwapsSpec)

/-- ITS FALSE NEIGHBOUR: 'it returns false'. Refute it at one input. -/
def execSwapsWrong : ChangeSpec := { name := "execSwaps", fn := fun _ => fun
  | [d1, d2, d3] => { results := [.lit (.bool false)], args := [d1, d2, d3] }
  | _ => none }
def ExecSwapsWrongFalsely : Prop := execSwapsRow.holds Try.pinned (OpenSpec.ofChange execSwapsWrong)

/-- 'hayloftlaw15.ExecCounts': WHATEVER THE INPUT: true; the input reads as it did. -/
def execCountsSpec : ChangeSpec := { name := "execCounts", fn := fun _ => fun
  | [d1, d2] => { results := [.lit (.bool true)], args := [d1, d2] }
  | _ => none }
def execCountsRow : OpenClaim := { program := "ytghblnldokpceaa", sum := "fccc23f429a9a0aedaea770906c839a31ffc350d404a948d569f9e9716f7682b", func := "hayloft/hayloftlaw15.ExecCounts", spec := "execCounts", inPlace := ["internal/bytealg.abigen_runtime_cmpstring", "slices.overlaps[hayloft/exec.group]"], unfollowed := true, recurses := true, apart := false }
def ExecCountsSaid : Prop := execCountsRow.holds Try.pinned (OpenSpec.ofChange execCountsSpec)

/-- ITS FALSE NEIGHBOUR: 'it returns false'. Refute it at one input. -/
def execCountsWrong : ChangeSpec := { name := "execCounts", fn := fun _ => fun
  | [d1, d2] => { results := [.lit (.bool false)], args := [d1, d2] }
  | _ => none }
def ExecCountsWrongFalsely : Prop := execCountsRow.holds Try.pinned (OpenSpec.ofChange execCountsWrong)

/-- 'hayloftlaw15.ExecSorts': WHATEVER THE INPUT: true; the input reads as it did. -/
def execSortsSpec : ChangeSpec := { name := "execSorts", fn := fun _ => fun
  | [d1, d2] => { results := [.lit (.bool true)], args := [d1, d2] }
  | _ => none }
def execSortsRow : OpenClaim := { program := "ytghblnldokpceaa", sum := "fccc23f429a9a0aedaea770906c839a31ffc350d404a948d569f9e9716f7682b", func := "hayloft/hayloftlaw15.ExecSorts", spec := "execSorts", inPlace := ["internal/bytealg.abigen_runtime_cmpstring", "slices.overlaps[hayloft/exec.group]"], unfollowed := true, recurses := true, apart := false }
def ExecSortsSaid : Prop := execSortsRow.holds Try.pinned (OpenSpec.ofChange execSortsSpec)

/-- ITS FALSE NEIGHBOUR: 'it returns false'. Refute it at one input. -/
def execSortsWrong : ChangeSpec := { name := "execSorts", fn := fun _ => fun
  | [d1, d2] => { results := [.lit (.bool false)], args := [d1, d2] }
  | _ => none }
def ExecSortsWrongFalsely : Prop := execSortsRow.holds Try.pinned (OpenSpec.ofChange execSortsWrong)

/-- 'hayloftlaw15.ExecRejoins': WHATEVER THE INPUT: true; the input reads as it did. -/
def execRejoinsSpec : ChangeSpec := { name := "execRejoins", fn := fun _ => fun
  | [d1, d2] => { results := [.lit (.bool true)], args := [d1, d2] }
  | _ => none }
def execRejoinsRow : OpenClaim := { program := "ytghblnldokpceaa", sum := "fccc23f429a9a0aedaea770906c839a31ffc350d404a948d569f9e9716f7682b", func := "hayloft/hayloftlaw15.ExecRejoins", spec := "execRejoins", inPlace := ["internal/bytealg.abigen_runtime_cmpstring", "slices.overlaps[hayloft/exec.group]"], unfollowed := true, recurses := true, apart := false }
def ExecRejoinsSaid : Prop := execRejoinsRow.holds Try.pinned (OpenSpec.ofChange execRejoinsSpec)

/-- ITS FALSE NEIGHBOUR: 'it returns false'. Refute it at one input. -/
def execRejoinsWrong : ChangeSpec := { name := "execRejoins", fn := fun _ => fun
  | [d1, d2] => { results := [.lit (.bool false)], args := [d1, d2] }
  | _ => none }
def ExecRejoinsWrongFalsely : Prop := execRejoinsRow.holds Try.pinned (OpenSpec.ofChange execRejoinsWrong)

/- THE SECOND FORM. 'bulk': how many values and letters a reading holds, each counted each time it is reached (what is shared counts as often as it is met; a slice's spare places count too). A statement '..UptoSaid' is the law's where the arguments, and the package variables that the reading takes, are together of bulk at most 1048576: NARROWER than '..Said'. Prove '..Said' where nothing that the law and all that it calls make is longer than what came in: it says more and counts as full. Else prove '..UptoSaid'. A law counts once. -/
mutual
def uptoBulk {H : Type} : DataW H → Nat
  | .lit (.string bytes) => bytes.length + 1
  | .lit _ => 1
  | .nil => 1
  | .ptr d => uptoBulk d + 1
  | .slice elems spare => uptoBulkAll elems + uptoBulkAll spare + 1
  | .agg parts => uptoBulkAll parts + 1
  | .iface _ d => uptoBulk d + 1
  | .map entries => uptoBulkEntries entries + 1
  | .held _ => 1
def uptoBulkAll {H : Type} : List (DataW H) → Nat
  | [] => 0
  | d :: r => uptoBulk d + uptoBulkAll r
def uptoBulkEntries {H : Type} : List (Lit × DataW H) → Nat
  | [] => 0
  | x :: r => uptoBulkEntry x + uptoBulkEntries r
def uptoBulkEntry {H : Type} : Lit × DataW H → Nat
  | (.string bytes, d) => bytes.length + uptoBulk d + 1
  | (_, d) => uptoBulk d + 1
 end
def uptoSmall : (H : Type) → List (DataW H) → Bool := fun _ ds => decide (uptoBulkAll ds ≤ 1048576)
def OpenSpec.upto (s : _root_.Go.ChangeSpec) : _root_.Go.OpenSpec := { _root_.Go.OpenSpec.ofChange s with cond := some uptoSmall }

/-- 'hayloftlaw15.ExecJoins', WHERE WHAT IT READS IS OF BULK AT MOST 1048576: true; the input reads as it did. -/
def execJoinsUptoRow : OpenClaim := { program := "ytghblnldokpceaa", sum := "fccc23f429a9a0aedaea770906c839a31ffc350d404a948d569f9e9716f7682b", func := "hayloft/hayloftlaw15.ExecJoins", spec := "execJoins", inPlace := ["internal/bytealg.abigen_runtime_cmpstring", "slices.overlaps[hayloft/exec.group]"], unfollowed := true, recurses := true, apart := false, narrowed := true }
def ExecJoinsUptoSaid : Prop := execJoinsUptoRow.holds Try.pinned (OpenSpec.upto execJoinsSpec)

/-- 'hayloftlaw15.ExecGroups', WHERE WHAT IT READS IS OF BULK AT MOST 1048576: true; the input reads as it did. -/
def execGroupsUptoRow : OpenClaim := { program := "ytghblnldokpceaa", sum := "fccc23f429a9a0aedaea770906c839a31ffc350d404a948d569f9e9716f7682b", func := "hayloft/hayloftlaw15.ExecGroups", spec := "execGroups", inPlace := ["internal/bytealg.abigen_runtime_cmpstring", "slices.overlaps[hayloft/exec.group]"], unfollowed := true, recurses := true, apart := false, narrowed := true }
def ExecGroupsUptoSaid : Prop := execGroupsUptoRow.holds Try.pinned (OpenSpec.upto execGroupsSpec)

/-- 'hayloftlaw15.ExecSwaps', WHERE WHAT IT READS IS OF BULK AT MOST 1048576: true; the input reads as it did. -/
def execSwapsUptoRow : OpenClaim := { program := "ytghblnldokpceaa", sum := "fccc23f429a9a0aedaea770906c839a31ffc350d404a948d569f9e9716f7682b", func := "hayloft/hayloftlaw15.ExecSwaps", spec := "execSwaps", inPlace := ["internal/bytealg.abigen_runtime_cmpstring", "slices.overlaps[hayloft/exec.group]"], unfollowed := true, recurses := true, apart := false, narrowed := true }
def ExecSwapsUptoSaid : Prop := execSwapsUptoRow.holds Try.pinned (OpenSpec.upto execSwapsSpec)

/-- 'hayloftlaw15.ExecCounts', WHERE WHAT IT READS IS OF BULK AT MOST 1048576: true; the input reads as it did. -/
def execCountsUptoRow : OpenClaim := { program := "ytghblnldokpceaa", sum := "fccc23f429a9a0aedaea770906c839a31ffc350d404a948d569f9e9716f7682b", func := "hayloft/hayloftlaw15.ExecCounts", spec := "execCounts", inPlace := ["internal/bytealg.abigen_runtime_cmpstring", "slices.overlaps[hayloft/exec.group]"], unfollowed := true, recurses := true, apart := false, narrowed := true }
def ExecCountsUptoSaid : Prop := execCountsUptoRow.holds Try.pinned (OpenSpec.upto execCountsSpec)

/-- 'hayloftlaw15.ExecSorts', WHERE WHAT IT READS IS OF BULK AT MOST 1048576: true; the input reads as it did. -/
def execSortsUptoRow : OpenClaim := { program := "ytghblnldokpceaa", sum := "fccc23f429a9a0aedaea770906c839a31ffc350d404a948d569f9e9716f7682b", func := "hayloft/hayloftlaw15.ExecSorts", spec := "execSorts", inPlace := ["internal/bytealg.abigen_runtime_cmpstring", "slices.overlaps[hayloft/exec.group]"], unfollowed := true, recurses := true, apart := false, narrowed := true }
def ExecSortsUptoSaid : Prop := execSortsUptoRow.holds Try.pinned (OpenSpec.upto execSortsSpec)

/-- 'hayloftlaw15.ExecRejoins', WHERE WHAT IT READS IS OF BULK AT MOST 1048576: true; the input reads as it did. -/
def execRejoinsUptoRow : OpenClaim := { program := "ytghblnldokpceaa", sum := "fccc23f429a9a0aedaea770906c839a31ffc350d404a948d569f9e9716f7682b", func := "hayloft/hayloftlaw15.ExecRejoins", spec := "execRejoins", inPlace := ["internal/bytealg.abigen_runtime_cmpstring", "slices.overlaps[hayloft/exec.group]"], unfollowed := true, recurses := true, apart := false, narrowed := true }
def ExecRejoinsUptoSaid : Prop := execRejoinsUptoRow.holds Try.pinned (OpenSpec.upto execRejoinsSpec)

end Rows
end Go.Proofs.Ytghblnldokpceaa
