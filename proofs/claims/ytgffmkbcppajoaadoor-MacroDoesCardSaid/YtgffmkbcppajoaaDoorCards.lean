/-
  DERIVED. GIVEN WITH THE SEED: THE CARDS: each row of YtgffmkbcppajoaaDoorRows.lean that lists a variable, with what it lists TIED to the program's text (the seventh form; the later family's looks); each row that meets fmt, with fmt's text TOLD by the authors' own Lean function (tested against real Go, not proved from fmt's source: count such statements apart). THE CARD IS WHAT COUNTS. Prove the row's statement (the work); the ties are given (YtgffmkbcppajoaaDoorTie.lean); close each card by the builder's one call (the guide's Derived/Test/ToyasCard.lean, 'card_holds'). Laid BY PROGRAM, IN A SANDBOX (cutbox-door.mjs). By AI agents, Wed Nov 11 2026. No macro, syntax, notation, axiom, sorry.
-/
import Derived.Test.YtgffmkbcppajoaaDoorRows
import GoSem.ClaimSeven
namespace Go.Proofs.YtgffmkbcppajoaaDoor
namespace Rows

/-- THE TIED CARD OF 'dactyllaw42.MacroDoes'. -/
def macroDoesCard : Claim7 := { stood := { row := macroDoesRow, standIns := [], harness := (true, "04646fe738fad0d2493c8f110ef3b30349ed523bd67909081110e97d956b09f6"), looks := false }, kinds := [], alts := [], laidByText := true, laidKinds := [.data], laidTests := true, laidLooks := .later }
def MacroDoesCardSaid : Prop := Claim7.holds Tryd.pinned (.plain (OpenSpec.ofChange macroDoesSpec)) macroDoesCard

/-- THE SECOND FORM's CARD OF 'dactyllaw42.MacroDoes'. -/
def macroDoesUptoCard : Claim7 := { stood := { row := macroDoesUptoRow, standIns := [], harness := (true, "04646fe738fad0d2493c8f110ef3b30349ed523bd67909081110e97d956b09f6"), looks := false }, kinds := [], alts := [], laidByText := true, laidKinds := [.data], laidTests := true, laidLooks := .later }
def MacroDoesUptoCardSaid : Prop := Claim7.holds Tryd.pinned (.plain (OpenSpec.upto macroDoesSpec)) macroDoesUptoCard
end Rows
end Go.Proofs.YtgffmkbcppajoaaDoor
