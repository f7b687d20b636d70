/-
  DERIVED. GIVEN WITH THE SEED: THE CARDS: each row of YtchemmppcdfljaaDoorRows.lean that lists a variable, with what it lists TIED to the program's text (the seventh form; the later family's looks); each row that meets fmt, with fmt's text TOLD by the authors' own Lean function (tested against real Go, not proved from fmt's source: count such statements apart). THE CARD IS WHAT COUNTS. Prove the row's statement (the work); the ties are given (YtchemmppcdfljaaDoorTie.lean); close each card by the builder's one call (the guide's Derived/Test/ToyasCard.lean, 'card_holds'). Laid BY PROGRAM, IN A SANDBOX (cutbox-door.mjs). By AI agents, Wed Nov 11 2026. No macro, syntax, notation, axiom, sorry.
-/
import Derived.Test.YtchemmppcdfljaaDoorRows
import GoSem.ClaimSeven
namespace Go.Proofs.YtchemmppcdfljaaDoor
namespace Rows

/-- THE TIED CARD OF 'hayloftlaw14.ExprTerms'. -/
def exprTermsCard : Claim7 := { stood := { row := exprTermsRow, standIns := [], harness := (true, "7373b1cf0890cf2c5fcb1ebd600d08c5b051b844e5fffe36d8bbb61edbb47a60"), looks := false }, kinds := [], alts := [], laidByText := true, laidKinds := [.data], laidTests := true, laidLooks := .later }
def ExprTermsCardSaid : Prop := Claim7.holds Tryd.pinned (.plain (OpenSpec.ofChange exprTermsSpec)) exprTermsCard

/-- THE TIED CARD OF 'hayloftlaw14.ExprContrary'. -/
def exprContraryCard : Claim7 := { stood := { row := exprContraryRow, standIns := [], harness := (true, "7373b1cf0890cf2c5fcb1ebd600d08c5b051b844e5fffe36d8bbb61edbb47a60"), looks := false }, kinds := [], alts := [], laidByText := true, laidKinds := [.data], laidTests := true, laidLooks := .later }
def ExprContraryCardSaid : Prop := Claim7.holds Tryd.pinned (.plain (OpenSpec.ofChange exprContrarySpec)) exprContraryCard

/-- THE TIED CARD OF 'hayloftlaw14.ExprOrders'. -/
def exprOrdersCard : Claim7 := { stood := { row := exprOrdersRow, standIns := [], harness := (true, "7373b1cf0890cf2c5fcb1ebd600d08c5b051b844e5fffe36d8bbb61edbb47a60"), looks := false }, kinds := [], alts := [], laidByText := true, laidKinds := [.data], laidTests := true, laidLooks := .later }
def ExprOrdersCardSaid : Prop := Claim7.holds Tryd.pinned (.plain (OpenSpec.ofChange exprOrdersSpec)) exprOrdersCard

/-- THE TIED CARD OF 'hayloftlaw14.ExprRanks'. -/
def exprRanksCard : Claim7 := { stood := { row := exprRanksRow, standIns := [], harness := (true, "7373b1cf0890cf2c5fcb1ebd600d08c5b051b844e5fffe36d8bbb61edbb47a60"), looks := false }, kinds := [], alts := [], laidByText := true, laidKinds := [.data], laidTests := true, laidLooks := .later }
def ExprRanksCardSaid : Prop := Claim7.holds Tryd.pinned (.plain (OpenSpec.ofChange exprRanksSpec)) exprRanksCard

/-- THE TIED CARD OF 'hayloftlaw14.ExprSplits'. -/
def exprSplitsCard : Claim7 := { stood := { row := exprSplitsRow, standIns := [], harness := (true, "7373b1cf0890cf2c5fcb1ebd600d08c5b051b844e5fffe36d8bbb61edbb47a60"), looks := false }, kinds := [], alts := [], laidByText := true, laidKinds := [.data], laidTests := true, laidLooks := .later }
def ExprSplitsCardSaid : Prop := Claim7.holds Tryd.pinned (.plain (OpenSpec.ofChange exprSplitsSpec)) exprSplitsCard

/-- THE TIED CARD OF 'hayloftlaw14.ExprChecks'. -/
def exprChecksCard : Claim7 := { stood := { row := exprChecksRow, standIns := [], harness := (true, "7373b1cf0890cf2c5fcb1ebd600d08c5b051b844e5fffe36d8bbb61edbb47a60"), looks := false }, kinds := [], alts := [], laidByText := true, laidKinds := [.data], laidTests := true, laidLooks := .later }
def ExprChecksCardSaid : Prop := Claim7.holds Tryd.pinned (.plain (OpenSpec.ofChange exprChecksSpec)) exprChecksCard

/-- THE SECOND FORM's CARD OF 'hayloftlaw14.ExprTerms'. -/
def exprTermsUptoCard : Claim7 := { stood := { row := exprTermsUptoRow, standIns := [], harness := (true, "7373b1cf0890cf2c5fcb1ebd600d08c5b051b844e5fffe36d8bbb61edbb47a60"), looks := false }, kinds := [], alts := [], laidByText := true, laidKinds := [.data], laidTests := true, laidLooks := .later }
def ExprTermsUptoCardSaid : Prop := Claim7.holds Tryd.pinned (.plain (OpenSpec.upto exprTermsSpec)) exprTermsUptoCard

/-- THE SECOND FORM's CARD OF 'hayloftlaw14.ExprContrary'. -/
def exprContraryUptoCard : Claim7 := { stood := { row := exprContraryUptoRow, standIns := [], harness := (true, "7373b1cf0890cf2c5fcb1ebd600d08c5b051b844e5fffe36d8bbb61edbb47a60"), looks := false }, kinds := [], alts := [], laidByText := true, laidKinds := [.data], laidTests := true, laidLooks := .later }
def ExprContraryUptoCardSaid : Prop := Claim7.holds Tryd.pinned (.plain (OpenSpec.upto exprContrarySpec)) exprContraryUptoCard

/-- THE SECOND FORM's CARD OF 'hayloftlaw14.ExprOrders'. -/
def exprOrdersUptoCard : Claim7 := { stood := { row := exprOrdersUptoRow, standIns := [], harness := (true, "7373b1cf0890cf2c5fcb1ebd600d08c5b051b844e5fffe36d8bbb61edbb47a60"), looks := false }, kinds := [], alts := [], laidByText := true, laidKinds := [.data], laidTests := true, laidLooks := .later }
def ExprOrdersUptoCardSaid : Prop := Claim7.holds Tryd.pinned (.plain (OpenSpec.upto exprOrdersSpec)) exprOrdersUptoCard

/-- THE SECOND FORM's CARD OF 'hayloftlaw14.ExprRanks'. -/
def exprRanksUptoCard : Claim7 := { stood := { row := exprRanksUptoRow, standIns := [], harness := (true, "7373b1cf0890cf2c5fcb1ebd600d08c5b051b844e5fffe36d8bbb61edbb47a60"), looks := false }, kinds := [], alts := [], laidByText := true, laidKinds := [.data], laidTests := true, laidLooks := .later }
def ExprRanksUptoCardSaid : Prop := Claim7.holds Tryd.pinned (.plain (OpenSpec.upto exprRanksSpec)) exprRanksUptoCard

/-- THE SECOND FORM's CARD OF 'hayloftlaw14.ExprSplits'. -/
def exprSplitsUptoCard : Claim7 := { stood := { row := exprSplitsUptoRow, standIns := [], harness := (true, "7373b1cf0890cf2c5fcb1ebd600d08c5b051b844e5fffe36d8bbb61edbb47a60"), looks := false }, kinds := [], alts := [], laidByText := true, laidKinds := [.data], laidTests := true, laidLooks := .later }
def ExprSplitsUptoCardSaid : Prop := Claim7.holds Tryd.pinned (.plain (OpenSpec.upto exprSplitsSpec)) exprSplitsUptoCard

/-- THE SECOND FORM's CARD OF 'hayloftlaw14.ExprChecks'. -/
def exprChecksUptoCard : Claim7 := { stood := { row := exprChecksUptoRow, standIns := [], harness := (true, "7373b1cf0890cf2c5fcb1ebd600d08c5b051b844e5fffe36d8bbb61edbb47a60"), looks := false }, kinds := [], alts := [], laidByText := true, laidKinds := [.data], laidTests := true, laidLooks := .later }
def ExprChecksUptoCardSaid : Prop := Claim7.holds Tryd.pinned (.plain (OpenSpec.upto exprChecksSpec)) exprChecksUptoCard
end Rows
end Go.Proofs.YtchemmppcdfljaaDoor
