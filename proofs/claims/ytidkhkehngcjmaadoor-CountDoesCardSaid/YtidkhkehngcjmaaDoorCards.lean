/-
  DERIVED. GIVEN WITH THE SEED: THE CARDS: each row of YtidkhkehngcjmaaDoorRows.lean that lists a variable, with what it lists TIED to the program's text (the seventh form; the later family's looks); each row that meets fmt, with fmt's text TOLD by the authors' own Lean function (tested against real Go, not proved from fmt's source: count such statements apart). THE CARD IS WHAT COUNTS. Prove the row's statement (the work); the ties are given (YtidkhkehngcjmaaDoorTie.lean); close each card by the builder's one call (the guide's Derived/Test/ToyasCard.lean, 'card_holds'). Laid BY PROGRAM, IN A SANDBOX (cutbox-door.mjs). By AI agents, Wed Nov 11 2026. No macro, syntax, notation, axiom, sorry.
-/
import Derived.Test.YtidkhkehngcjmaaDoorRows
import GoSem.ClaimSeven
namespace Go.Proofs.YtidkhkehngcjmaaDoor
namespace Rows

/-- THE TIED CARD OF 'dactyllaw29.CountDoes'. -/
def countDoesCard : Claim7 := { stood := { row := countDoesRow, standIns := [], harness := (true, "4653bac9498a48461a41b65078887f34ebc7b950b6c4498159d46fd1d245051b"), looks := false }, kinds := [], alts := [], laidByText := true, laidKinds := [.data], laidTests := true, laidLooks := .later }
def CountDoesCardSaid : Prop := Claim7.holds Tryd.pinned (.plain (OpenSpec.ofChange countDoesSpec)) countDoesCard

/-- THE TIED CARD OF 'dactyllaw29.CountTells'. -/
def countTellsCard : Claim7 := { stood := { row := countTellsRow, standIns := [], harness := (true, "4653bac9498a48461a41b65078887f34ebc7b950b6c4498159d46fd1d245051b"), looks := false }, kinds := [], alts := [], laidByText := true, laidKinds := [.data], laidTests := true, laidLooks := .later }
def CountTellsCardSaid : Prop := Claim7.holds Tryd.pinned (.plain (OpenSpec.ofChange countTellsSpec)) countTellsCard

/-- THE SECOND FORM's CARD OF 'dactyllaw29.CountDoes'. -/
def countDoesUptoCard : Claim7 := { stood := { row := countDoesUptoRow, standIns := [], harness := (true, "4653bac9498a48461a41b65078887f34ebc7b950b6c4498159d46fd1d245051b"), looks := false }, kinds := [], alts := [], laidByText := true, laidKinds := [.data], laidTests := true, laidLooks := .later }
def CountDoesUptoCardSaid : Prop := Claim7.holds Tryd.pinned (.plain (OpenSpec.upto countDoesSpec)) countDoesUptoCard

/-- THE SECOND FORM's CARD OF 'dactyllaw29.CountTells'. -/
def countTellsUptoCard : Claim7 := { stood := { row := countTellsUptoRow, standIns := [], harness := (true, "4653bac9498a48461a41b65078887f34ebc7b950b6c4498159d46fd1d245051b"), looks := false }, kinds := [], alts := [], laidByText := true, laidKinds := [.data], laidTests := true, laidLooks := .later }
def CountTellsUptoCardSaid : Prop := Claim7.holds Tryd.pinned (.plain (OpenSpec.upto countTellsSpec)) countTellsUptoCard
end Rows
end Go.Proofs.YtidkhkehngcjmaaDoor
