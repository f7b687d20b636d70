/-
  No cell of these rows narrows 'for every input' (looked for: loops, veiled, ifaces, maps, wideKeys, modest, calm, conditions, laid).
  DERIVED. THE GIVEN ROWS OF THIS SEAT. 8 by the template 'for every input the law returns true; each argument reads behind the call as it read before'; 0 by the template 'total and deterministic' (their statements: YtacacigpendneaaTotals.lean).
  GIVEN WITH THE SEED: the statements are not yours to turn. If you find one false, say at which input.
  Laid BY PROGRAM, IN A SANDBOX (cutbox-rows.mjs): the forced cells as the released guide's own fill.sh prints them over the translation de94770205b92026… (all of the seat's roots in one cut). By AI agents, Wed Nov 11 2026. No macro, syntax, notation, axiom, sorry.
-/
import Derived.Test.YtacacigpendneaaChecked
import GoSem.Claim
import GoSem.ClaimJoined
import GoSem.ClaimMapViews
import Derived.JoinedTies
import Derived.KernelRfl
namespace Go.Proofs.Ytacacigpendneaa
/- THE CELL 'sum', in the pinned program and in every row, IS THE sha256 OF THE DUMP (.gsa) THAT YtacacigpendneaaProg.lean LOADS. Nothing in Lean hashes anything: it is a label: what it is worth is what the hold of that sum in a sandbox is worth. -/
noncomputable def Try.pinned : Pinned := { name := "ytacacigpendneaa", sum := "de94770205b92026cad62509f303297b5e8691ba8e3d60234774772e9b1c52bd", checked := Try.checked }
namespace Rows
def none {H : Type} : Left H := { results := [], args := [] }

/-- 'hayloftlaw10.WosNames': WHATEVER THE INPUT: true; the input reads as it did. -/
def wosNamesSpec : ChangeSpec := { name := "wosNames", fn := fun _ => fun
  | [d1, d2, d3] => { results := [.lit (.bool true)], args := [d1, d2, d3] }
  | _ => none }
def wosNamesRow : OpenClaim := { program := "ytacacigpendneaa", sum := "de94770205b92026cad62509f303297b5e8691ba8e3d60234774772e9b1c52bd", func := "hayloft/hayloftlaw10.WosNames", spec := "wosNames", plainKeys := false, apart := false }
def WosNamesSaid : Prop := wosNamesRow.holds Try.pinned (OpenSpec.ofChange wosNamesSpec)

/-- ITS FALSE NEIGHBOUR: 'it returns false'. Refute it at one input. -/
def wosNamesWrong : ChangeSpec := { name := "wosNames", fn := fun _ => fun
  | [d1, d2, d3] => { results := [.lit (.bool false)], args := [d1, d2, d3] }
  | _ => none }
def WosNamesWrongFalsely : Prop := wosNamesRow.holds Try.pinned (OpenSpec.ofChange wosNamesWrong)

/-- 'hayloftlaw10.WosOrder': WHATEVER THE INPUT: true; the input reads as it did. -/
def wosOrderSpec : ChangeSpec := { name := "wosOrder", fn := fun _ => fun
  | [d1, d2] => { results := [.lit (.bool true)], args := [d1, d2] }
  | _ => none }
def wosOrderRow : OpenClaim := { program := "ytacacigpendneaa", sum := "de94770205b92026cad62509f303297b5e8691ba8e3d60234774772e9b1c52bd", func := "hayloft/hayloftlaw10.WosOrder", spec := "wosOrder", inPlace := ["maps.clone"], unfollowed := true, recurses := true, plainKeys := false, apart := false }
def WosOrderSaid : Prop := wosOrderRow.holds Try.pinned (OpenSpec.ofChange wosOrderSpec)

/-- ITS FALSE NEIGHBOUR: 'it returns false'. Refute it at one input. -/
def wosOrderWrong : ChangeSpec := { name := "wosOrder", fn := fun _ => fun
  | [d1, d2] => { results := [.lit (.bool false)], args := [d1, d2] }
  | _ => none }
def WosOrderWrongFalsely : Prop := wosOrderRow.holds Try.pinned (OpenSpec.ofChange wosOrderWrong)

/-- 'hayloftlaw10.WosLives': WHATEVER THE INPUT: true; the input reads as it did. -/
def wosLivesSpec : ChangeSpec := { name := "wosLives", fn := fun _ => fun
  | [d1, d2, d3] => { results := [.lit (.bool true)], args := [d1, d2, d3] }
  | _ => none }
def wosLivesRow : OpenClaim := { program := "ytacacigpendneaa", sum := "de94770205b92026cad62509f303297b5e8691ba8e3d60234774772e9b1c52bd", func := "hayloft/hayloftlaw10.WosLives", spec := "wosLives", inPlace := ["maps.clone"], unfollowed := true, recurses := true, plainKeys := false, apart := false }
def WosLivesSaid : Prop := wosLivesRow.holds Try.pinned (OpenSpec.ofChange wosLivesSpec)

/-- ITS FALSE NEIGHBOUR: 'it returns false'. Refute it at one input. -/
def wosLivesWrong : ChangeSpec := { name := "wosLives", fn := fun _ => fun
  | [d1, d2, d3] => { results := [.lit (.bool false)], args := [d1, d2, d3] }
  | _ => none }
def WosLivesWrongFalsely : Prop := wosLivesRow.holds Try.pinned (OpenSpec.ofChange wosLivesWrong)

/-- 'hayloftlaw10.WosAll': WHATEVER THE INPUT: true; the input reads as it did. -/
def wosAllSpec : ChangeSpec := { name := "wosAll", fn := fun _ => fun
  | [d] => { results := [.lit (.bool true)], args := [d] }
  | _ => none }
def wosAllRow : OpenClaim := { program := "ytacacigpendneaa", sum := "de94770205b92026cad62509f303297b5e8691ba8e3d60234774772e9b1c52bd", func := "hayloft/hayloftlaw10.WosAll", spec := "wosAll", inPlace := ["maps.clone"], unfollowed := true, recurses := true, plainKeys := false, apart := false }
def WosAllSaid : Prop := wosAllRow.holds Try.pinned (OpenSpec.ofChange wosAllSpec)

/-- ITS FALSE NEIGHBOUR: 'it returns false'. Refute it at one input. -/
def wosAllWrong : ChangeSpec := { name := "wosAll", fn := fun _ => fun
  | [d] => { results := [.lit (.bool false)], args := [d] }
  | _ => none }
def WosAllWrongFalsely : Prop := wosAllRow.holds Try.pinned (OpenSpec.ofChange wosAllWrong)

/-- 'hayloftlaw10.WosPurges': WHATEVER THE INPUT: true; the input reads as it did. -/
def wosPurgesSpec : ChangeSpec := { name := "wosPurges", fn := fun _ => fun
  | [d1, d2, d3] => { results := [.lit (.bool true)], args := [d1, d2, d3] }
  | _ => none }
def wosPurgesRow : OpenClaim := { program := "ytacacigpendneaa", sum := "de94770205b92026cad62509f303297b5e8691ba8e3d60234774772e9b1c52bd", func := "hayloft/hayloftlaw10.WosPurges", spec := "wosPurges", inPlace := ["maps.clone"], unfollowed := true, recurses := true, plainKeys := false, apart := false }
def WosPurgesSaid : Prop := wosPurgesRow.holds Try.pinned (OpenSpec.ofChange wosPurgesSpec)

/-- ITS FALSE NEIGHBOUR: 'it returns false'. Refute it at one input. -/
def wosPurgesWrong : ChangeSpec := { name := "wosPurges", fn := fun _ => fun
  | [d1, d2, d3] => { results := [.lit (.bool false)], args := [d1, d2, d3] }
  | _ => none }
def WosPurgesWrongFalsely : Prop := wosPurgesRow.holds Try.pinned (OpenSpec.ofChange wosPurgesWrong)

/-- 'hayloftlaw10.WosRange': WHATEVER THE INPUT: true; the input reads as it did. -/
def wosRangeSpec : ChangeSpec := { name := "wosRange", fn := fun _ => fun
  | [d1, d2] => { results := [.lit (.bool true)], args := [d1, d2] }
  | _ => none }
def wosRangeRow : OpenClaim := { program := "ytacacigpendneaa", sum := "de94770205b92026cad62509f303297b5e8691ba8e3d60234774772e9b1c52bd", func := "hayloft/hayloftlaw10.WosRange", spec := "wosRange", inPlace := ["maps.clone"], unfollowed := true, recurses := true, plainKeys := false, apart := false }
def WosRangeSaid : Prop := wosRangeRow.holds Try.pinned (OpenSpec.ofChange wosRangeSpec)

/-- ITS FALSE NEIGHBOUR: 'it returns false'. Refute it at one input. -/
def wosRangeWrong : ChangeSpec := { name := "wosRange", fn := fun _ => fun
  | [d1, d2] => { results := [.lit (.bool false)], args := [d1, d2] }
  | _ => none }
def WosRangeWrongFalsely : Prop := wosRangeRow.holds Try.pinned (OpenSpec.ofChange wosRangeWrong)

/-- 'hayloftlaw10.WosClones': WHATEVER THE INPUT: true; the input reads as it did. -/
def wosClonesSpec : ChangeSpec := { name := "wosClones", fn := fun _ => fun
  | [d] => { results := [.lit (.bool true)], args := [d] }
  | _ => none }
def wosClonesRow : OpenClaim := { program := "ytacacigpendneaa", sum := "de94770205b92026cad62509f303297b5e8691ba8e3d60234774772e9b1c52bd", func := "hayloft/hayloftlaw10.WosClones", spec := "wosClones", inPlace := ["maps.clone"], unfollowed := true, recurses := true, plainKeys := false, apart := false }
def WosClonesSaid : Prop := wosClonesRow.holds Try.pinned (OpenSpec.ofChange wosClonesSpec)

/-- ITS FALSE NEIGHBOUR: 'it returns false'. Refute it at one input. -/
def wosClonesWrong : ChangeSpec := { name := "wosClones", fn := fun _ => fun
  | [d] => { results := [.lit (.bool false)], args := [d] }
  | _ => none }
def WosClonesWrongFalsely : Prop := wosClonesRow.holds Try.pinned (OpenSpec.ofChange wosClonesWrong)

/-- 'hayloftlaw10.WosTakes': WHATEVER THE INPUT: true; the input reads as it did. -/
def wosTakesSpec : ChangeSpec := { name := "wosTakes", fn := fun _ => fun
  | [d1, d2] => { results := [.lit (.bool true)], args := [d1, d2] }
  | _ => none }
def wosTakesRow : OpenClaim := { program := "ytacacigpendneaa", sum := "de94770205b92026cad62509f303297b5e8691ba8e3d60234774772e9b1c52bd", func := "hayloft/hayloftlaw10.WosTakes", spec := "wosTakes", inPlace := ["maps.clone"], unfollowed := true, recurses := true, plainKeys := false, apart := false }
def WosTakesSaid : Prop := wosTakesRow.holds Try.pinned (OpenSpec.ofChange wosTakesSpec)

/-- ITS FALSE NEIGHBOUR: 'it returns false'. Refute it at one input. -/
def wosTakesWrong : ChangeSpec := { name := "wosTakes", fn := fun _ => fun
  | [d1, d2] => { results := [.lit (.bool false)], args := [d1, d2] }
  | _ => none }
def WosTakesWrongFalsely : Prop := wosTakesRow.holds Try.pinned (OpenSpec.ofChange wosTakesWrong)

/- THE SECOND FORM. 'bulk': how many values and letters a reading holds, each counted each time it is reached (what is shared counts as often as it is met; a slice's spare places count too). A statement '..UptoSaid' is the law's where the arguments, and the package variables that the reading takes, are together of bulk at most 1048576: NARROWER than '..Said'. Prove '..Said' where nothing that the law and all that it calls make is longer than what came in: it says more and counts as full. Else prove '..UptoSaid'. A law counts once. -/
mutual
def uptoBulk {H : Type} : DataW H → Nat
  | .lit (.string bytes) => bytes.length + 1
  | .lit _ => 1
  | .nil => 1
  | .ptr d => uptoBulk d + 1
  | .slice elems spare => uptoBulkAll elems + uptoBulkAll spare + 1
  | .agg parts => uptoBulkAll parts + 1
  | .iface _ d => uptoBulk d + 1
  | .map entries => uptoBulkEntries entries + 1
  | .held _ => 1
def uptoBulkAll {H : Type} : List (DataW H) → Nat
  | [] => 0
  | d :: r => uptoBulk d + uptoBulkAll r
def uptoBulkEntries {H : Type} : List (Lit × DataW H) → Nat
  | [] => 0
  | x :: r => uptoBulkEntry x + uptoBulkEntries r
def uptoBulkEntry {H : Type} : Lit × DataW H → Nat
  | (.string bytes, d) => bytes.length + uptoBulk d + 1
  | (_, d) => uptoBulk d + 1
 end
def uptoSmall : (H : Type) → List (DataW H) → Bool := fun _ ds => decide (uptoBulkAll ds ≤ 1048576)
def OpenSpec.upto (s : _root_.Go.ChangeSpec) : _root_.Go.OpenSpec := { _root_.Go.OpenSpec.ofChange s with cond := some uptoSmall }

/-- 'hayloftlaw10.WosNames', WHERE WHAT IT READS IS OF BULK AT MOST 1048576: true; the input reads as it did. -/
def wosNamesUptoRow : OpenClaim := { program := "ytacacigpendneaa", sum := "de94770205b92026cad62509f303297b5e8691ba8e3d60234774772e9b1c52bd", func := "hayloft/hayloftlaw10.WosNames", spec := "wosNames", plainKeys := false, apart := false, narrowed := true }
def WosNamesUptoSaid : Prop := wosNamesUptoRow.holds Try.pinned (OpenSpec.upto wosNamesSpec)

/-- 'hayloftlaw10.WosOrder', WHERE WHAT IT READS IS OF BULK AT MOST 1048576: true; the input reads as it did. -/
def wosOrderUptoRow : OpenClaim := { program := "ytacacigpendneaa", sum := "de94770205b92026cad62509f303297b5e8691ba8e3d60234774772e9b1c52bd", func := "hayloft/hayloftlaw10.WosOrder", spec := "wosOrder", inPlace := ["maps.clone"], unfollowed := true, recurses := true, plainKeys := false, apart := false, narrowed := true }
def WosOrderUptoSaid : Prop := wosOrderUptoRow.holds Try.pinned (OpenSpec.upto wosOrderSpec)

/-- 'hayloftlaw10.WosLives', WHERE WHAT IT READS IS OF BULK AT MOST 1048576: true; the input reads as it did. -/
def wosLivesUptoRow : OpenClaim := { program := "ytacacigpendneaa", sum := "de94770205b92026cad62509f303297b5e8691ba8e3d60234774772e9b1c52bd", func := "hayloft/hayloftlaw10.WosLives", spec := "wosLives", inPlace := ["maps.clone"], unfollowed := true, recurses := true, plainKeys := false, apart := false, narrowed := true }
def WosLivesUptoSaid : Prop := wosLivesUptoRow.holds Try.pinned (OpenSpec.upto wosLivesSpec)

/-- 'hayloftlaw10.WosAll', WHERE WHAT IT READS IS OF BULK AT MOST 1048576: true; the input reads as it did. -/
def wosAllUptoRow : OpenClaim := { program := "ytacacigpendneaa", sum := "de94770205b92026cad62509f303297b5e8691ba8e3d60234774772e9b1c52bd", func := "hayloft/hayloftlaw10.WosAll", spec := "wosAll", inPlace := ["maps.clone"], unfollowed := true, recurses := true, plainKeys := false, apart := false, narrowed := true }
def WosAllUptoSaid : Prop := wosAllUptoRow.holds Try.pinned (OpenSpec.upto wosAllSpec)

/-- 'hayloftlaw10.WosPurges', WHERE WHAT IT READS IS OF BULK AT MOST 1048576: true; the input reads as it did. -/
def wosPurgesUptoRow : OpenClaim := { program := "ytacacigpendneaa", sum := "de94770205b92026cad62509f303297b5e8691ba8e3d60234774772e9b1c52bd", func := "hayloft/hayloftlaw10.WosPurges", spec := "wosPurges", inPlace := ["maps.clone"], unfollowed := true, recurses := true, plainKeys := false, apart := false, narrowed := true }
def WosPurgesUptoSaid : Prop := wosPurgesUptoRow.holds Try.pinned (OpenSpec.upto wosPurgesSpec)

/-- 'hayloftlaw10.WosRange', WHERE WHAT IT READS IS OF BULK AT MOST 1048576: true; the input reads as it did. -/
def wosRangeUptoRow : OpenClaim := { program := "ytacacigpendneaa", sum := "de94770205b92026cad62509f303297b5e8691ba8e3d60234774772e9b1c52bd", func := "hayloft/hayloftlaw10.WosRange", spec := "wosRange", inPlace := ["maps.clone"], unfollowed := true, recurses := true, plainKeys := false, apart := false, narrowed := true }
def WosRangeUptoSaid : Prop := wosRangeUptoRow.holds Try.pinned (OpenSpec.upto wosRangeSpec)

/-- 'hayloftlaw10.WosClones', WHERE WHAT IT READS IS OF BULK AT MOST 1048576: true; the input reads as it did. -/
def wosClonesUptoRow : OpenClaim := { program := "ytacacigpendneaa", sum := "de94770205b92026cad62509f303297b5e8691ba8e3d60234774772e9b1c52bd", func := "hayloft/hayloftlaw10.WosClones", spec := "wosClones", inPlace := ["maps.clone"], unfollowed := true, recurses := true, plainKeys := false, apart := false, narrowed := true }
def WosClonesUptoSaid : Prop := wosClonesUptoRow.holds Try.pinned (OpenSpec.upto wosClonesSpec)

/-- 'hayloftlaw10.WosTakes', WHERE WHAT IT READS IS OF BULK AT MOST 1048576: true; the input reads as it did. -/
def wosTakesUptoRow : OpenClaim := { program := "ytacacigpendneaa", sum := "de94770205b92026cad62509f303297b5e8691ba8e3d60234774772e9b1c52bd", func := "hayloft/hayloftlaw10.WosTakes", spec := "wosTakes", inPlace := ["maps.clone"], unfollowed := true, recurses := true, plainKeys := false, apart := false, narrowed := true }
def WosTakesUptoSaid : Prop := wosTakesUptoRow.holds Try.pinned (OpenSpec.upto wosTakesSpec)

end Rows
end Go.Proofs.Ytacacigpendneaa
