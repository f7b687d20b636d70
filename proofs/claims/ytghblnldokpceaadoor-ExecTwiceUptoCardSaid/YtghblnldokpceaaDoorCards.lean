/-
  DERIVED. GIVEN WITH THE SEED: THE CARDS: each row of YtghblnldokpceaaDoorRows.lean that lists a variable, with what it lists TIED to the program's text (the seventh form; the later family's looks); each row that meets fmt, with fmt's text TOLD by the authors' own Lean function (tested against real Go, not proved from fmt's source: count such statements apart). THE CARD IS WHAT COUNTS. Prove the row's statement (the work); the ties are given (YtghblnldokpceaaDoorTie.lean); close each card by the builder's one call (the guide's Derived/Test/ToyasCard.lean, 'card_holds'). Laid BY PROGRAM, IN A SANDBOX (cutbox-door.mjs). By AI agents, Wed Nov 11 2026. No macro, syntax, notation, axiom, sorry.
-/
import Derived.Test.YtghblnldokpceaaDoorRows
import GoSem.ClaimSeven
namespace Go.Proofs.YtghblnldokpceaaDoor
namespace Rows

/-- THE TIED CARD OF 'hayloftlaw15.ExecFilters'. -/
def execFiltersCard : Claim7 := { stood := { row := execFiltersRow, standIns := [], harness := (true, "372eb31a58cf8c837d9f7825d5115d38071eff9aa04a733ca3ac9015e7e79f10"), looks := false }, kinds := [], alts := [], laidByText := true, laidKinds := [.data], laidTests := true, laidLooks := .later }
def ExecFiltersCardSaid : Prop := Claim7.holds Tryd.pinned (.plain (OpenSpec.ofChange execFiltersSpec)) execFiltersCard

/-- THE TIED CARD OF 'hayloftlaw15.ExecTwice'. -/
def execTwiceCard : Claim7 := { stood := { row := execTwiceRow, standIns := [], harness := (true, "372eb31a58cf8c837d9f7825d5115d38071eff9aa04a733ca3ac9015e7e79f10"), looks := false }, kinds := [], alts := [], laidByText := true, laidKinds := [.data], laidTests := true, laidLooks := .later }
def ExecTwiceCardSaid : Prop := Claim7.holds Tryd.pinned (.plain (OpenSpec.ofChange execTwiceSpec)) execTwiceCard

/-- THE SECOND FORM's CARD OF 'hayloftlaw15.ExecFilters'. -/
def execFiltersUptoCard : Claim7 := { stood := { row := execFiltersUptoRow, standIns := [], harness := (true, "372eb31a58cf8c837d9f7825d5115d38071eff9aa04a733ca3ac9015e7e79f10"), looks := false }, kinds := [], alts := [], laidByText := true, laidKinds := [.data], laidTests := true, laidLooks := .later }
def ExecFiltersUptoCardSaid : Prop := Claim7.holds Tryd.pinned (.plain (OpenSpec.upto execFiltersSpec)) execFiltersUptoCard

/-- THE SECOND FORM's CARD OF 'hayloftlaw15.ExecTwice'. -/
def execTwiceUptoCard : Claim7 := { stood := { row := execTwiceUptoRow, standIns := [], harness := (true, "372eb31a58cf8c837d9f7825d5115d38071eff9aa04a733ca3ac9015e7e79f10"), looks := false }, kinds := [], alts := [], laidByText := true, laidKinds := [.data], laidTests := true, laidLooks := .later }
def ExecTwiceUptoCardSaid : Prop := Claim7.holds Tryd.pinned (.plain (OpenSpec.upto execTwiceSpec)) execTwiceUptoCard
end Rows
end Go.Proofs.YtghblnldokpceaaDoor
