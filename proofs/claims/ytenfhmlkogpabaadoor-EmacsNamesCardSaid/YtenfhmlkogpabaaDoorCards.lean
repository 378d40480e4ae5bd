/-
  DERIVED. GIVEN WITH THE SEED: THE CARDS: each row of YtenfhmlkogpabaaDoorRows.lean that lists a variable, with what it lists TIED to the program's text (the seventh form; the later family's looks); each row that meets fmt, with fmt's text TOLD by the authors' own Lean function (tested against real Go, not proved from fmt's source: count such statements apart). THE CARD IS WHAT COUNTS. Prove the row's statement (the work); the ties are given (YtenfhmlkogpabaaDoorTie.lean); close each card by the builder's one call (the guide's Derived/Test/ToyasCard.lean, 'card_holds'). Laid BY PROGRAM, IN A SANDBOX (cutbox-door.mjs). By AI agents, Wed Nov 11 2026. No macro, syntax, notation, axiom, sorry.
-/
import Derived.Test.YtenfhmlkogpabaaDoorRows
import GoSem.ClaimSeven
namespace Go.Proofs.YtenfhmlkogpabaaDoor
namespace Rows

/-- THE TIED CARD OF 'dactyllaw27.EmacsNames'. -/
def emacsNamesCard : Claim7 := { stood := { row := emacsNamesRow, standIns := [], harness := (true, "baeaf96a1429b2f449e0af14d484fe95a5081ee107ba8badac310ece99c8b22a"), looks := false }, kinds := [], alts := [], laidByText := true, laidKinds := [.data, .data, .data, .data], laidTests := true, laidLooks := .later }
def EmacsNamesCardSaid : Prop := Claim7.holds Tryd.pinned (.plain (OpenSpec.ofChange emacsNamesSpec)) emacsNamesCard

/-- THE SECOND FORM's CARD OF 'dactyllaw27.EmacsNames'. -/
def emacsNamesUptoCard : Claim7 := { stood := { row := emacsNamesUptoRow, standIns := [], harness := (true, "baeaf96a1429b2f449e0af14d484fe95a5081ee107ba8badac310ece99c8b22a"), looks := false }, kinds := [], alts := [], laidByText := true, laidKinds := [.data, .data, .data, .data], laidTests := true, laidLooks := .later }
def EmacsNamesUptoCardSaid : Prop := Claim7.holds Tryd.pinned (.plain (OpenSpec.upto emacsNamesSpec)) emacsNamesUptoCard
end Rows
end Go.Proofs.YtenfhmlkogpabaaDoor
