/-
  DERIVED. GIVEN WITH THE SEED: THE CARDS: each row of YtgcmnomjdbofoaaDoorRows.lean that lists a variable, with what it lists TIED to the program's text (the seventh form; the later family's looks); each row that meets fmt, with fmt's text TOLD by the authors' own Lean function (tested against real Go, not proved from fmt's source: count such statements apart). THE CARD IS WHAT COUNTS. Prove the row's statement (the work); the ties are given (YtgcmnomjdbofoaaDoorTie.lean); close each card by the builder's one call (the guide's Derived/Test/ToyasCard.lean, 'card_holds'). Laid BY PROGRAM, IN A SANDBOX (cutbox-door.mjs). By AI agents, Wed Nov 11 2026. No macro, syntax, notation, axiom, sorry.
-/
import Derived.Test.YtgcmnomjdbofoaaDoorRows
import GoSem.ClaimSeven
namespace Go.Proofs.YtgcmnomjdbofoaaDoor
namespace Rows

/-- THE TIED CARD OF 'haylofttop.HayloftSums'. -/
def hayloftSumsCard : Claim7 := { stood := { row := hayloftSumsRow, standIns := [], harness := (true, "cf6e7dba1bb350f75cb142794b3152a5f445efbdd7a1e14f26f32485383afbc9"), looks := false }, kinds := [], alts := [], laidByText := true, laidKinds := [.data], laidTests := true, laidLooks := .later }
def HayloftSumsCardSaid : Prop := Claim7.holds Tryd.pinned (.plain (OpenSpec.ofChange hayloftSumsSpec)) hayloftSumsCard

/-- THE TIED CARD OF 'haylofttop.HayloftSkips'. -/
def hayloftSkipsCard : Claim7 := { stood := { row := hayloftSkipsRow, standIns := [], harness := (true, "cf6e7dba1bb350f75cb142794b3152a5f445efbdd7a1e14f26f32485383afbc9"), looks := false }, kinds := [], alts := [], laidByText := true, laidKinds := [.data], laidTests := true, laidLooks := .later }
def HayloftSkipsCardSaid : Prop := Claim7.holds Tryd.pinned (.plain (OpenSpec.ofChange hayloftSkipsSpec)) hayloftSkipsCard

/-- THE SECOND FORM's CARD OF 'haylofttop.HayloftSums'. -/
def hayloftSumsUptoCard : Claim7 := { stood := { row := hayloftSumsUptoRow, standIns := [], harness := (true, "cf6e7dba1bb350f75cb142794b3152a5f445efbdd7a1e14f26f32485383afbc9"), looks := false }, kinds := [], alts := [], laidByText := true, laidKinds := [.data], laidTests := true, laidLooks := .later }
def HayloftSumsUptoCardSaid : Prop := Claim7.holds Tryd.pinned (.plain (OpenSpec.upto hayloftSumsSpec)) hayloftSumsUptoCard

/-- THE SECOND FORM's CARD OF 'haylofttop.HayloftSkips'. -/
def hayloftSkipsUptoCard : Claim7 := { stood := { row := hayloftSkipsUptoRow, standIns := [], harness := (true, "cf6e7dba1bb350f75cb142794b3152a5f445efbdd7a1e14f26f32485383afbc9"), looks := false }, kinds := [], alts := [], laidByText := true, laidKinds := [.data], laidTests := true, laidLooks := .later }
def HayloftSkipsUptoCardSaid : Prop := Claim7.holds Tryd.pinned (.plain (OpenSpec.upto hayloftSkipsSpec)) hayloftSkipsUptoCard
end Rows
end Go.Proofs.YtgcmnomjdbofoaaDoor
