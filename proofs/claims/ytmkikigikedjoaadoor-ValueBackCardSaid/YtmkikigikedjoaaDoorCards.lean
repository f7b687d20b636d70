/-
  DERIVED. GIVEN WITH THE SEED: THE CARDS: each row of YtmkikigikedjoaaDoorRows.lean that lists a variable, with what it lists TIED to the program's text (the seventh form; the later family's looks); each row that meets fmt, with fmt's text TOLD by the authors' own Lean function (tested against real Go, not proved from fmt's source: count such statements apart). THE CARD IS WHAT COUNTS. Prove the row's statement (the work); the ties are given (YtmkikigikedjoaaDoorTie.lean); close each card by the builder's one call (the guide's Derived/Test/ToyasCard.lean, 'card_holds'). Laid BY PROGRAM, IN A SANDBOX (cutbox-door.mjs). By AI agents, Wed Nov 11 2026. No macro, syntax, notation, axiom, sorry.
-/
import Derived.Test.YtmkikigikedjoaaDoorRows
import GoSem.ClaimSeven
namespace Go.Proofs.YtmkikigikedjoaaDoor
namespace Rows

/-- THE TIED CARD OF 'hayloftlaw02.ValueCompares'. -/
def valueComparesCard : Claim7 := { stood := { row := valueComparesRow, standIns := [], harness := (true, "f4d23d01cb4f2c9e83cbb3b1f8a11ad24ffe8d435a85f52345d9e8a516129a54"), looks := true }, kinds := [], alts := [], laidByText := true, laidKinds := [.data, .data, .data], laidTests := true, laidLooks := .later }
def ValueComparesCardSaid : Prop := Claim7.holds Tryd.pinned (.plain (OpenSpec.ofChange valueComparesSpec)) valueComparesCard

/-- THE TIED CARD OF 'hayloftlaw02.ValueMakes'. -/
def valueMakesCard : Claim7 := { stood := { row := valueMakesRow, standIns := [], harness := (true, "f4d23d01cb4f2c9e83cbb3b1f8a11ad24ffe8d435a85f52345d9e8a516129a54"), looks := true }, kinds := [], alts := [], laidByText := true, laidKinds := [.data, .data, .data], laidTests := true, laidLooks := .later }
def ValueMakesCardSaid : Prop := Claim7.holds Tryd.pinned (.plain (OpenSpec.ofChange valueMakesSpec)) valueMakesCard

/-- THE TIED CARD OF 'hayloftlaw02.ValueRows'. -/
def valueRowsCard : Claim7 := { stood := { row := valueRowsRow, standIns := [], harness := (true, "f4d23d01cb4f2c9e83cbb3b1f8a11ad24ffe8d435a85f52345d9e8a516129a54"), looks := true }, kinds := [], alts := [], laidByText := true, laidKinds := [.data, .data, .data], laidTests := true, laidLooks := .later }
def ValueRowsCardSaid : Prop := Claim7.holds Tryd.pinned (.plain (OpenSpec.ofChange valueRowsSpec)) valueRowsCard

/-- THE TIED CARD OF 'hayloftlaw02.ValueOrder'. -/
def valueOrderCard : Claim7 := { stood := { row := valueOrderRow, standIns := [], harness := (true, "f4d23d01cb4f2c9e83cbb3b1f8a11ad24ffe8d435a85f52345d9e8a516129a54"), looks := true }, kinds := [], alts := [], laidByText := true, laidKinds := [.data, .data, .data], laidTests := true, laidLooks := .later }
def ValueOrderCardSaid : Prop := Claim7.holds Tryd.pinned (.plain (OpenSpec.ofChange valueOrderSpec)) valueOrderCard

/-- THE TIED CARD OF 'hayloftlaw02.ValueRowOrder'. -/
def valueRowOrderCard : Claim7 := { stood := { row := valueRowOrderRow, standIns := [], harness := (true, "f4d23d01cb4f2c9e83cbb3b1f8a11ad24ffe8d435a85f52345d9e8a516129a54"), looks := true }, kinds := [], alts := [], laidByText := true, laidKinds := [.data, .data, .data], laidTests := true, laidLooks := .later }
def ValueRowOrderCardSaid : Prop := Claim7.holds Tryd.pinned (.plain (OpenSpec.ofChange valueRowOrderSpec)) valueRowOrderCard

/-- THE TIED CARD OF 'hayloftlaw02.ValueTables'. -/
def valueTablesCard : Claim7 := { stood := { row := valueTablesRow, standIns := [], harness := (true, "f4d23d01cb4f2c9e83cbb3b1f8a11ad24ffe8d435a85f52345d9e8a516129a54"), looks := true }, kinds := [], alts := [], laidByText := true, laidKinds := [.data, .data, .data], laidTests := true, laidLooks := .later }
def ValueTablesCardSaid : Prop := Claim7.holds Tryd.pinned (.plain (OpenSpec.ofChange valueTablesSpec)) valueTablesCard

/-- THE TIED CARD OF 'hayloftlaw02.ValueFitsAll'. -/
def valueFitsAllCard : Claim7 := { stood := { row := valueFitsAllRow, standIns := [], harness := (true, "f4d23d01cb4f2c9e83cbb3b1f8a11ad24ffe8d435a85f52345d9e8a516129a54"), looks := true }, kinds := [], alts := [], laidByText := true, laidKinds := [.data, .data, .data], laidTests := true, laidLooks := .later }
def ValueFitsAllCardSaid : Prop := Claim7.holds Tryd.pinned (.plain (OpenSpec.ofChange valueFitsAllSpec)) valueFitsAllCard

/-- THE TIED CARD OF 'hayloftlaw02.ValueTexts'. -/
def valueTextsCard : Claim7 := { stood := { row := valueTextsRow, standIns := [], harness := (true, "f4d23d01cb4f2c9e83cbb3b1f8a11ad24ffe8d435a85f52345d9e8a516129a54"), looks := true }, kinds := [], alts := [], laidByText := true, laidKinds := [.data, .data, .data, .sentinel, .sentinel], laidTests := true, laidLooks := .later }
def ValueTextsCardSaid : Prop := Claim7.holds Tryd.pinned (.plain (OpenSpec.ofChange valueTextsSpec)) valueTextsCard

/-- THE TIED CARD OF 'hayloftlaw02.ValueBack'. -/
def valueBackCard : Claim7 := { stood := { row := valueBackRow, standIns := [], harness := (true, "f4d23d01cb4f2c9e83cbb3b1f8a11ad24ffe8d435a85f52345d9e8a516129a54"), looks := true }, kinds := [], alts := [], laidByText := true, laidKinds := [.data, .data, .data, .sentinel, .sentinel], laidTests := true, laidLooks := .later }
def ValueBackCardSaid : Prop := Claim7.holds Tryd.pinned (.plain (OpenSpec.ofChange valueBackSpec)) valueBackCard

/-- THE SECOND FORM's CARD OF 'hayloftlaw02.ValueCompares'. -/
def valueComparesUptoCard : Claim7 := { stood := { row := valueComparesUptoRow, standIns := [], harness := (true, "f4d23d01cb4f2c9e83cbb3b1f8a11ad24ffe8d435a85f52345d9e8a516129a54"), looks := true }, kinds := [], alts := [], laidByText := true, laidKinds := [.data, .data, .data], laidTests := true, laidLooks := .later }
def ValueComparesUptoCardSaid : Prop := Claim7.holds Tryd.pinned (.plain (OpenSpec.upto valueComparesSpec)) valueComparesUptoCard

/-- THE SECOND FORM's CARD OF 'hayloftlaw02.ValueMakes'. -/
def valueMakesUptoCard : Claim7 := { stood := { row := valueMakesUptoRow, standIns := [], harness := (true, "f4d23d01cb4f2c9e83cbb3b1f8a11ad24ffe8d435a85f52345d9e8a516129a54"), looks := true }, kinds := [], alts := [], laidByText := true, laidKinds := [.data, .data, .data], laidTests := true, laidLooks := .later }
def ValueMakesUptoCardSaid : Prop := Claim7.holds Tryd.pinned (.plain (OpenSpec.upto valueMakesSpec)) valueMakesUptoCard

/-- THE SECOND FORM's CARD OF 'hayloftlaw02.ValueRows'. -/
def valueRowsUptoCard : Claim7 := { stood := { row := valueRowsUptoRow, standIns := [], harness := (true, "f4d23d01cb4f2c9e83cbb3b1f8a11ad24ffe8d435a85f52345d9e8a516129a54"), looks := true }, kinds := [], alts := [], laidByText := true, laidKinds := [.data, .data, .data], laidTests := true, laidLooks := .later }
def ValueRowsUptoCardSaid : Prop := Claim7.holds Tryd.pinned (.plain (OpenSpec.upto valueRowsSpec)) valueRowsUptoCard

/-- THE SECOND FORM's CARD OF 'hayloftlaw02.ValueOrder'. -/
def valueOrderUptoCard : Claim7 := { stood := { row := valueOrderUptoRow, standIns := [], harness := (true, "f4d23d01cb4f2c9e83cbb3b1f8a11ad24ffe8d435a85f52345d9e8a516129a54"), looks := true }, kinds := [], alts := [], laidByText := true, laidKinds := [.data, .data, .data], laidTests := true, laidLooks := .later }
def ValueOrderUptoCardSaid : Prop := Claim7.holds Tryd.pinned (.plain (OpenSpec.upto valueOrderSpec)) valueOrderUptoCard

/-- THE SECOND FORM's CARD OF 'hayloftlaw02.ValueRowOrder'. -/
def valueRowOrderUptoCard : Claim7 := { stood := { row := valueRowOrderUptoRow, standIns := [], harness := (true, "f4d23d01cb4f2c9e83cbb3b1f8a11ad24ffe8d435a85f52345d9e8a516129a54"), looks := true }, kinds := [], alts := [], laidByText := true, laidKinds := [.data, .data, .data], laidTests := true, laidLooks := .later }
def ValueRowOrderUptoCardSaid : Prop := Claim7.holds Tryd.pinned (.plain (OpenSpec.upto valueRowOrderSpec)) valueRowOrderUptoCard

/-- THE SECOND FORM's CARD OF 'hayloftlaw02.ValueTables'. -/
def valueTablesUptoCard : Claim7 := { stood := { row := valueTablesUptoRow, standIns := [], harness := (true, "f4d23d01cb4f2c9e83cbb3b1f8a11ad24ffe8d435a85f52345d9e8a516129a54"), looks := true }, kinds := [], alts := [], laidByText := true, laidKinds := [.data, .data, .data], laidTests := true, laidLooks := .later }
def ValueTablesUptoCardSaid : Prop := Claim7.holds Tryd.pinned (.plain (OpenSpec.upto valueTablesSpec)) valueTablesUptoCard

/-- THE SECOND FORM's CARD OF 'hayloftlaw02.ValueFitsAll'. -/
def valueFitsAllUptoCard : Claim7 := { stood := { row := valueFitsAllUptoRow, standIns := [], harness := (true, "f4d23d01cb4f2c9e83cbb3b1f8a11ad24ffe8d435a85f52345d9e8a516129a54"), looks := true }, kinds := [], alts := [], laidByText := true, laidKinds := [.data, .data, .data], laidTests := true, laidLooks := .later }
def ValueFitsAllUptoCardSaid : Prop := Claim7.holds Tryd.pinned (.plain (OpenSpec.upto valueFitsAllSpec)) valueFitsAllUptoCard

/-- THE SECOND FORM's CARD OF 'hayloftlaw02.ValueTexts'. -/
def valueTextsUptoCard : Claim7 := { stood := { row := valueTextsUptoRow, standIns := [], harness := (true, "f4d23d01cb4f2c9e83cbb3b1f8a11ad24ffe8d435a85f52345d9e8a516129a54"), looks := true }, kinds := [], alts := [], laidByText := true, laidKinds := [.data, .data, .data, .sentinel, .sentinel], laidTests := true, laidLooks := .later }
def ValueTextsUptoCardSaid : Prop := Claim7.holds Tryd.pinned (.plain (OpenSpec.upto valueTextsSpec)) valueTextsUptoCard

/-- THE SECOND FORM's CARD OF 'hayloftlaw02.ValueBack'. -/
def valueBackUptoCard : Claim7 := { stood := { row := valueBackUptoRow, standIns := [], harness := (true, "f4d23d01cb4f2c9e83cbb3b1f8a11ad24ffe8d435a85f52345d9e8a516129a54"), looks := true }, kinds := [], alts := [], laidByText := true, laidKinds := [.data, .data, .data, .sentinel, .sentinel], laidTests := true, laidLooks := .later }
def ValueBackUptoCardSaid : Prop := Claim7.holds Tryd.pinned (.plain (OpenSpec.upto valueBackSpec)) valueBackUptoCard
end Rows
end Go.Proofs.YtmkikigikedjoaaDoor
